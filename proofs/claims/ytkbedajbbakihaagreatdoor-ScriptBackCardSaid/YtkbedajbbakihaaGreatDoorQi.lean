/-
 Texts of this proof, put together (Pp): each part's first words say what it holds. Conditions: as each part says.
-/
import Derived.Test.YtkbedajbbakihaaGreatDoorQe1
import Derived.Test.YtkbedajbbakihaaGreatDoorQe2
import Derived.Test.YtkbedajbbakihaaGreatDoorQd
/-
 Parse, walked. Conditions: none on the text (longer texts are refused).
-/
namespace Go.Proofs.YtkbedajbbakihaaGreatDoor
open Go.RowKit Go.Sort Go.Lib
set_option linter.unusedSimpArgs false
set_option linter.unusedVariables false

set_option maxRecDepth 100000 in
theorem lines_new (l : List UInt8) (w : World) : Calls Tryz.prog 42 #[strV l] w fun e w' => e = .returned (.func (.func 80) #[] #[.pointer (some ⟨w.heap.size, 0, none⟩)]) ∧ w' = w.alloc (.cells #[strV l] 9) := by
 have hmf : ∀ (fn : Fn) (first cap : Array Value) (w : World), (Instr.makeFunc fn first cap).run Tryz.prog w = .ok (.func fn first cap) w := fun _ _ _ _ => rfl
 obtain ⟨T, hT⟩ : ∃ T : ByteArray, T = ⟨l.toArray⟩ := ⟨_, rfl⟩
 unfold strV
 rw [← hT]
 clear hT
 go_enter Tryz.func42, Tryz.ntmps42
 go_wp2_with fail
 go_ret
 exact ⟨rfl, rfl⟩
theorem heap6 (w : World) (a b c d e f : Obj) (W : World) (hW : W = (((((w.alloc a).alloc b).alloc c).alloc d).alloc e).alloc f) (B : Nat) (hB : w.heap.size = B) :
  W.heap[B]? = some a ∧ W.heap[B + 1]? = some b ∧ W.heap[B + 2]? = some c ∧ W.heap[B + 3]? = some d ∧ W.heap[B + 4]? = some e ∧ W.heap[B + 5]? = some f := by
 subst hW hB
 refine ⟨?_, ?_, ?_, ?_, ?_, ?_⟩
 ·iterate 5 rw [heap_alloc_lt _ _ _ (by simp; try omega)]
  exact (MapKept.heap_alloc w _).1
 ·iterate 4 rw [heap_alloc_lt _ _ _ (by simp; try omega)]
  simpa using (MapKept.heap_alloc (w.alloc a) b).1
 ·iterate 3 rw [heap_alloc_lt _ _ _ (by simp; try omega)]
  simpa using (MapKept.heap_alloc ((w.alloc a).alloc b) c).1
 ·iterate 2 rw [heap_alloc_lt _ _ _ (by simp; try omega)]
  simpa using (MapKept.heap_alloc (((w.alloc a).alloc b).alloc c) d).1
 ·rw [heap_alloc_lt _ _ _ (by simp; try omega)]
  simpa using (MapKept.heap_alloc ((((w.alloc a).alloc b).alloc c).alloc d) e).1
 ·simpa using (MapKept.heap_alloc (((((w.alloc a).alloc b).alloc c).alloc d).alloc e) f).1
theorem lnsA_len (l : List UInt8) : ∀ acc, ∀ x ∈ lnsA acc l, x.1.length ≤ acc.length + l.length := by
 induction l with
 | nil =>
  intro acc x hx
  rw [lnsA] at hx
  split at hx
  ·cases hx
  ·rw [List.mem_singleton.1 hx]; simp
 | cons c r ih =>
  intro acc x hx
  rw [lnsA] at hx
  split at hx
  ·rcases List.mem_cons.1 hx with h | h
   ·rw [h]; simp
   ·have := ih [] x h; simp at this ⊢; omega
  ·have := ih (acc ++ [c]) x hx
   simp at this ⊢
   omega
theorem lns_len {l : List UInt8} {pre suf : List (List UInt8 × Bool)} {x : List UInt8 × Bool} (h : lns l = pre ++ x :: suf) : x.1.length ≤ l.length := by
 have := lnsA_len l [] x (by show x ∈ lns l; rw [h]; simp)
 simpa using this
theorem P1.later {X K P8 P9 P10 P11 : Nat} {bw : Bool} {ws : List (List UInt8)} {w w' : World} (h : P1 X K P8 P9 P10 P11 bw ws w) (hl : Later w w') : P1 X K P8 P9 P10 P11 bw ws w' := by
 obtain ⟨o1, o2, o3, o4, o5⟩ := h.ord
 have hX := h.rd.elim fun v hv => hv.2.1
 exact ⟨⟨o1, o2, o3, o4, Nat.lt_of_lt_of_le o5 hl.size⟩, (hl.block P8 (by omega)).trans h.c8, (hl.block P9 (by omega)).trans h.c9, (hl.block P10 (by omega)).trans h.c10, (hl.block P11 (by omega)).trans h.c11, h.rd.later hl⟩
theorem p1_new (x : List UInt8 × Bool) (hl : x.1.length ≤ 80000000) (W : World) (hW : Laid W) (L P8 : Nat) (hL : W.heap.size = L) (h8 : W.heap[P8]? = some (.cells #[.bool x.2] 4 (0, 0))) (W4 : World)
  (hW4 : W4 = ((((W.alloc (.cells (wsC (spl x.1)).toArray 9)).alloc (.cells (reqRow req0 (.slice (some ⟨L, 0, none⟩) (spl x.1).length (spl x.1).length)) 83)).alloc (.cells #[.pointer (some ⟨L + 1, 0, none⟩)] 74)).alloc (.cells #[.slice none 0 0] 43)).alloc (.cells #[.int .i64 0] 3)) :
  P1 (L + 1) (L + 2) P8 (L + 2) (L + 3) (L + 4) x.2 (spl x.1) W4 ∧ Later W W4 ∧ W4.heap.size = L + 5 := by
 subst hL
 have h8s : P8 < W.heap.size := (Array.getElem?_eq_some_iff.1 h8).1
 obtain ⟨W1, hW1⟩ : ∃ W1, W.alloc (.cells (wsC (spl x.1)).toArray 9) = W1 := ⟨_, rfl⟩
 have hl1 : Later W W1 := by rw [← hW1]; exact (Later.refl W).alloc _
 have hs1 : W1.heap.size = W.heap.size + 1 := by rw [← hW1]; simp
 have hb1 : W1.heap[W.heap.size]? = some (.cells (wsC (spl x.1)).toArray 9 (0, 0)) := by rw [← hW1]; exact (MapKept.heap_alloc W _).1
 rw [hW1] at hW4
 obtain ⟨W2, hW2⟩ : ∃ W2, W1.alloc (.cells (reqRow req0 (.slice (some ⟨W.heap.size, 0, none⟩) (spl x.1).length (spl x.1).length)) 83) = W2 := ⟨_, rfl⟩
 have hrd := rd_new x.1 hl W W1 hW hl1 W.heap.size hb1 W2 hW2
 have hs2 : W2.heap.size = W.heap.size + 2 := by rw [← hW2]; simp; omega
 have hl2 : Later W1 W2 := by rw [← hW2]; exact (Later.refl W1).alloc _
 rw [hs1, hs2] at hrd
 rw [hW2] at hW4
 have hl4 : Later W2 W4 := by rw [hW4]; exact (((Later.refl W2).alloc _).alloc _).alloc _
 have hs4 : W4.heap.size = W.heap.size + 5 := by rw [hW4]; simp; omega
 refine ⟨⟨⟨by omega, by omega, by omega, by omega, by omega⟩, ?_, ?_, ?_, ?_, hrd.later hl4⟩, (hl1.trans hl2).trans hl4, hs4⟩
 ·rw [((hl1.trans hl2).trans hl4).block P8 h8s]; exact h8
 ·rw [hW4, heap_alloc_lt _ _ _ (by simp; omega), heap_alloc_lt _ _ _ (by simp; omega)]
  have := (MapKept.heap_alloc W2 (.cells #[.pointer (some ⟨W.heap.size + 1, 0, none⟩)] 74)).1
  rwa [hs2] at this
 ·rw [hW4, heap_alloc_lt _ _ _ (by simp; omega)]
  have := (MapKept.heap_alloc (W2.alloc (.cells #[.pointer (some ⟨W.heap.size + 1, 0, none⟩)] 74)) (.cells #[.slice none 0 0] 43)).1
  rw [World.size_alloc, hs2] at this
  exact this
 ·rw [hW4]
  have := (MapKept.heap_alloc ((W2.alloc (.cells #[.pointer (some ⟨W.heap.size + 1, 0, none⟩)] 74)).alloc (.cells #[.slice none 0 0] 43)) (.cells #[.int .i64 0] 3)).1
  rw [World.size_alloc, World.size_alloc, hs2] at this
  exact this
theorem parse1_ln (X K P8 P9 P10 P11 : Nat) (x : List UInt8 × Bool) (w : World) (h : P1 X K P8 P9 P10 P11 x.2 (spl x.1) w) :
  Calls Tryz.prog 43 #[.pointer (some ⟨P8, 0, none⟩), .pointer (some ⟨P9, 0, none⟩), .pointer (some ⟨P10, 0, none⟩), .pointer (some ⟨P11, 0, none⟩)] w (P1End X K P10 P11 (lnP x) w) := by
 unfold lnP
 cases hb : x.2 with
 | false =>
  rw [hb] at h
  rw [if_neg (by decide)]
  exact parse1_false X K P8 P9 P10 P11 _ w h
 | true =>
  rw [hb] at h
  rw [if_pos rfl]
  obtain ⟨a, t, e⟩ := spl_ex x.1
  rw [e] at h ⊢
  exact parse1_true X K P8 P9 P10 P11 a t w h
set_option maxRecDepth 100000 in
theorem enter43 (args : Array Value) (W : World) : (callFunc 43 args).run Tryz.prog W = .ok (.enter 43 args) W := rfl
/-- what Parse's try leaves -/
def TR (X K P10 P11 : Nat) (res : Option (List Int ⊕ (Int × Req))) (W4 w' : World) : Prop := Exc [X, P10, P11] W4 w' ∧ match res with
 | none => False
 | some (.inl l) => l ≠ [] ∧ ∃ v, w'.heap[P10]? = some (.cells #[v] 43 (0, 0)) ∧ w'.ownsRow W4.heap.size 3 1 v l.length (ints l)
 | some (.inr (n, r)) => w'.heap[P10]? = some (.cells #[.slice none 0 0] 43 (0, 0)) ∧ w'.heap[P11]? = some (.cells #[.int .i64 n] 3 (0, 0)) ∧ RdQ X K r [] w'
theorem try_line (X K P8 P9 P10 P11 : Nat) (x : List UInt8 × Bool) (W : World) (h : P1 X K P8 P9 P10 P11 x.2 (spl x.1) W) :
  Calls Tryz.prog 38 #[.func (.func 43) #[] #[.pointer (some ⟨P8, 0, none⟩), .pointer (some ⟨P9, 0, none⟩), .pointer (some ⟨P10, 0, none⟩), .pointer (some ⟨P11, 0, none⟩)]] W
   (TryEnd W.heap.size (fun w' => TR X K P10 P11 (lnP x) (W.alloc (.cells #[.bool false] 4)) w') (fun w' => lnP x = none ∧ Exc [X, P10, P11] (W.alloc (.cells #[.bool false] 4)) w')) := by
 have hl : Later W (W.alloc (.cells #[.bool false] 4)) := (Later.refl W).alloc _
 have h4 := h.later hl
 obtain ⟨o1, o2, o3, o4, o5⟩ := h.ord
 have hX : X < K ∧ K ≤ W.heap.size := h.rd.elim fun v hv => hv.2.1
 refine try_is 43 #[] _ W _ _ enter43 ((parse1_ln X K P8 P9 P10 P11 x _ h4).mono ?_)
 rintro e w' ⟨hk, hres⟩
 refine ⟨(hk.block W.heap.size (by simp) (by simp; omega)).trans (MapKept.heap_alloc W _).1, ?_⟩
 cases hr : lnP x with
 | none => rw [hr] at hres; exact .inr ⟨hres, rfl, hk⟩
 | some y =>
  rw [hr] at hres
  cases y with
  | inl l => exact .inl ⟨hres.1, hk, hres.2⟩
  | inr z => exact .inl ⟨hres.1, hk, hres.2⟩
theorem fold2 (a : Array Value) (X1 X2 : Value) : Array.foldl (fun (t : Array Value) (x : Nat × Value) => match x with | (p, v) => t.setIfInBounds p v) a (Array.zip #[19, 20] #[X1, X2]) = (a.setIfInBounds 19 X1).setIfInBounds 20 X2 := by
 simp
theorem addr_add0 (b j : Nat) : (⟨b, 0, none⟩ : Addr).add j = ⟨b, j, none⟩ := by
 unfold Addr.add; split <;> simp_all
theorem len_lsum (ls : List (List UInt8 × Bool)) : ls.length ≤ lsum ls := by
 induction ls with
 | nil => simp [lsum]
 | cons x t ih => simp only [lsum, List.map_cons, List.sum_cons, List.length_cons] at ih ⊢; omega
/-- the reader as a value -/
def rdV (L m : Nat) : Value := .agg #[.slice (some ⟨L, 0, none⟩) m m, .int .i64 0, .int .i64 0, .int .u32 0, .int .u8 0, .string ⟨#[]⟩, .string ⟨#[]⟩, .string ⟨#[]⟩, .int .i64 0, .int .i64 0, .int .u64 0, .int .u64 0, .int .u8 0,
 .int .i64 0, .string ⟨#[]⟩, .slice none 0 0, .int .i64 0, .int .u32 0, .int .u8 0, .int .u64 0, .int .u64 0, .int .u64 0, .int .u64 0, .int .u64 0, .int .u64 0, .int .u64 0, .int .u64 0, .int .u64 0, .int .u64 0, .complex .f64 0 0]
/-- Parse's frame within the loop -/
def frP (B k : Nat) (T : ByteArray) (f18 v7 v8 v19 v20 : Value) : Array Value :=
 #[.string T, undef, .pointer (some ⟨B, 0, none⟩), .pointer (some ⟨B + 1, 0, none⟩), .pointer (some ⟨B + 1 + 1, 0, none⟩), .pointer (some ⟨B + 1 + 1 + 1, 0, none⟩), .pointer (some ⟨B + 1 + 1 + 1 + 1, 0, none⟩), v7, v8, undef, undef, undef, undef,
  .string T, .int .i64 k, .bool false, undef, .string T, f18, v19, v20, undef, undef, undef, undef, undef, undef, undef, undef, undef, undef, undef, undef, undef, undef, undef, undef, undef, undef, undef, undef, undef, undef, undef, undef, undef, undef, undef, undef, undef, undef, undef, undef, undef, undef, undef, undef, undef, undef, undef, undef, undef, undef, undef, undef, undef, undef]
/-- Parse has returned an error -/
def PX (l : List UInt8) (w : World) (D : Nat) (W : World) : Prop := ∃ (n : Nat) (c : Int), runP (lns l) ([], []) 0 = .error (n, c) ∧ Later w W ∧ D ≤ W.heap.size ∧ W.heap[w.heap.size]? = some (.cells #[.slice none 0 0, .slice none 0 0] 45 (0, 0)) ∧
 W.heap[w.heap.size + 1]? = some (.cells #[.int .i64 (n : Int)] 3 (0, 0)) ∧ W.heap[w.heap.size + 2]? = some (.cells #[.int .i64 c] 24 (0, 0))
theorem PX.own (l : List UInt8) {w : World} {D : Nat} (hD : w.heap.size + 6 ≤ D) : OwnFrom D (fun (_ : Unit) W => PX l w D W) := by
 rintro ⟨⟩ W W' row ⟨n, c, h0, hl, hb, h1, h2, h3⟩ hg hr
 have keep : ∀ k, k < D → W'.heap[k]? = W.heap[k]? := fun k hk => hg.block k (by omega) (fun e => by have := (hr k e.symm).1; omega)
 exact ⟨n, c, h0, ⟨hg.os.trans hl.os, hg.tape.trans hl.tape, hg.output.trans hl.output, Nat.le_trans hl.size hg.size, fun k hk => (keep k (by omega)).trans (hl.block k hk)⟩, Nat.le_trans hb hg.size,
  (keep _ (by omega)).trans h1, (keep _ (by omega)).trans h2, (keep _ (by omega)).trans h3⟩
/-- a round begins -/
def PA (w : World) (D B k : Nat) (T : ByteArray) (f18 : Value) (pre : List (List UInt8 × Bool)) (x : List UInt8 × Bool) (a : Act) (W : World) : Prop :=
 PS w D pre W ∧ ∃ P8, D ≤ P8 ∧ W.heap[P8]? = some (.cells #[.bool x.2] 4 (0, 0)) ∧ a = ⟨frP B k T f18 (strV x.1) (.pointer (some ⟨P8, 0, none⟩)) (strV x.1) (.bool x.2), []⟩
theorem PA.own {w : World} {D B k : Nat} {T : ByteArray} {f18 : Value} (hD : w.heap.size + 6 ≤ D) (pre : List (List UInt8 × Bool)) (x : List UInt8 × Bool) (a : Act) : OwnFrom D (fun (_ : Unit) W => PA w D B k T f18 pre x a W) := by
 rintro ⟨⟩ W W' row ⟨hp, P8, h1, h2, h3⟩ hg hr
 refine ⟨hp.grown hD row hg hr, P8, h1, ?_, h3⟩
 rw [hg.block P8 (Array.getElem?_eq_some_iff.1 h2).1 (fun e => by
  obtain ⟨_, o, ho, hc⟩ := hr P8 e.symm
  rw [h2] at ho
  cases ho
  cases hc)]
 exact h2
set_option maxRecDepth 100000 in
theorem results17 (tmps : Array Value) (w : World) (a b c : Nat) (ev pv : Value) (n d : Int) (h2 : tmps.getD 2 undef = .pointer (some ⟨a, 0, none⟩)) (h3 : tmps.getD 3 undef = .pointer (some ⟨b, 0, none⟩)) (h4 : tmps.getD 4 undef = .pointer (some ⟨c, 0, none⟩))
  (k0 : w.heap[a]? = some (.cells #[ev, pv] 45 (0, 0))) (k1 : w.heap[b]? = some (.cells #[.int .i64 n] 3 (0, 0))) (k2 : w.heap[c]? = some (.cells #[.int .i64 d] 24 (0, 0))) :
  (results Tryz.f17 tmps).run Tryz.prog w = .ok (.tuple #[.agg #[ev, pv], .int .i64 n, .int .i64 d]) w := by
 have e0 : w.cell? ⟨a, 0, none⟩ = some ev := by rw [Lib.cell_of_heap k0]; rfl
 have e1 : w.cell? ⟨a, 1, none⟩ = some pv := by rw [Lib.cell_of_heap k0]; rfl
 have e2 := one_cell k1
 have e3 := one_cell k2
 rw [Array.getD_eq_getD_getElem?] at h2 h3 h4
 simp [results, Tryz.results17, go_sem, h2, h3, h4, e0, e1, e2, e3]
theorem ret17 (R : Ending → World → Prop) (ac : Act) (W : World) (D a b c : Nat) (ev pv : Value) (n d : Int) (h2 : ac.tmps.getD 2 undef = .pointer (some ⟨a, 0, none⟩)) (h3 : ac.tmps.getD 3 undef = .pointer (some ⟨b, 0, none⟩)) (h4 : ac.tmps.getD 4 undef = .pointer (some ⟨c, 0, none⟩))
  (hd : ac.defers = [{ target := .collected D, args := #[] }]) (hK : W.heap[D]? = some (.deferred (some [])))
  (k0 : W.heap[a]? = some (.cells #[ev, pv] 45 (0, 0))) (k1 : W.heap[b]? = some (.cells #[.int .i64 n] 3 (0, 0))) (k2 : W.heap[c]? = some (.cells #[.int .i64 d] 24 (0, 0)))
  (hR : R (.returned (.tuple #[.agg #[ev, pv], .int .i64 n, .int .i64 d])) (W.putObj D (.deferred none))) : bodyPostM Fence.wide 9 Tryz.prog Tryz.f17 R .ret ac W := by
 have hne : ∀ (k : Nat) (cs : Array Value) (t : TypeId), W.heap[k]? = some (.cells cs t (0, 0)) → (W.putObj D (.deferred none)).heap[k]? = some (.cells cs t (0, 0)) := fun k cs t hk => by
  rw [World.putObj_heap_other (by intro e; rw [e, hK] at hk; cases hk)]
  exact hk
 show LeavesInM Fence.wide 9 Tryz.prog Tryz.f17 ac.tmps R ac.defers .returning W
 rw [hd]
 refine ⟨by simp, .inl ⟨_, _, rfl, run_takeDeferred hK, ?_⟩⟩
 exact ⟨_, results17 _ _ a b c ev pv n d h2 h3 h4 (hne _ _ _ k0) (hne _ _ _ k1) (hne _ _ _ k2), hR⟩
set_option maxRecDepth 100000 in
set_option maxHeartbeats 4000000 in
theorem Parse_long (l : List UInt8) (hl : 262144 < l.length) (w : World) : Calls Tryz.prog 17 #[strV l] w (PEnd (parseP l) w) := by
 have hp : parseP l = .error (0, 3) := by rw [parseP, if_pos hl]
 rw [hp]
 obtain ⟨T, hT⟩ : ∃ T : ByteArray, T = ⟨l.toArray⟩ := ⟨_, rfl⟩
 have hTs : T.size = l.length := by rw [hT]; simp [ByteArray.size]
 unfold strV
 rw [← hT]
 obtain ⟨k, hk⟩ : ∃ k, T.size = k := ⟨_, rfl⟩
 have hk1 : (262144 : Int) < k := by omega
 have hk2 : 262144 < k := by omega
 have HLT := Lib.hid (show Later w (((w.alloc (.cells #[.slice none 0 0, .slice none 0 0] 45)).alloc (.cells #[.int .i64 0] 3)).alloc (.cells #[.int .i64 0] 24)) from (((Later.refl w).alloc _).alloc _).alloc _)
 clear hTs hl hp hT
 go_enter Tryz.func17, Tryz.ntmps17
 go_wp2_with fail
 obtain ⟨W1, hW1⟩ : ∃ W1, (w.alloc (.cells #[.slice none 0 0, .slice none 0 0] 45)).alloc (.cells #[.int .i64 0] 3) = W1 := ⟨_, rfl⟩
 have k0 : (W1.alloc (.cells #[.int .i64 3] 24)).heap[w.heap.size]? = some (.cells #[.slice none 0 0, .slice none 0 0] 45 (0, 0)) := by
  rw [heap_alloc_lt _ _ _ (by rw [← hW1]; simp; omega), ← hW1, heap_alloc_lt _ _ _ (by simp)]
  exact (MapKept.heap_alloc w _).1
 have k1 : (W1.alloc (.cells #[.int .i64 3] 24)).heap[w.heap.size + 1]? = some (.cells #[.int .i64 0] 3 (0, 0)) := by
  rw [heap_alloc_lt _ _ _ (by rw [← hW1]; simp), ← hW1]
  have := (MapKept.heap_alloc (w.alloc (.cells #[.slice none 0 0, .slice none 0 0] 45)) (.cells #[.int .i64 0] 3)).1
  simpa using this
 have k2 : (W1.alloc (.cells #[.int .i64 3] 24)).heap[w.heap.size + 1 + 1]? = some (.cells #[.int .i64 3] 24 (0, 0)) := by
  have := (MapKept.heap_alloc W1 (.cells #[.int .i64 3] 24)).1
  have hs : W1.heap.size = w.heap.size + 1 + 1 := by rw [← hW1]; simp
  rw [hs] at this
  exact this
 have hl9 : Later w (W1.alloc (.cells #[.int .i64 3] 24)) := by rw [← hW1]; exact (((Later.refl w).alloc _).alloc _).alloc _
 rw [hW1]
 exact bodyPost_ret (results17 _ _ _ _ _ _ _ 0 3 rfl rfl rfl k0 k1 k2) rfl ⟨hl9, rfl⟩
set_option maxRecDepth 100000 in
set_option maxHeartbeats 8000000 in
theorem Parse_is (l : List UInt8) (hl : l.length ≤ 262144) (w : World) (hw : Laid w) : Calls Tryz.prog 17 #[strV l] w (PEnd (parseP l) w) := by
 have hp : parseP l = runP (lns l) ([], []) 0 := by rw [parseP, if_neg (by omega)]
 obtain ⟨res, hres⟩ : ∃ res, parseP l = res := ⟨_, rfl⟩
 rw [hres]
 rw [hp] at hres
 have HLN := Lib.hid (fun w1 => lines_new l w1)
 obtain ⟨T, hT⟩ : ∃ T : ByteArray, T = ⟨l.toArray⟩ := ⟨_, rfl⟩
 have hTs : T.size = l.length := by rw [hT]; simp [ByteArray.size]
 unfold strV at HLN ⊢
 rw [← hT] at HLN ⊢
 obtain ⟨k, hk⟩ : ∃ k, T.size = k := ⟨_, rfl⟩
 have hk1 : ¬ (262144 : Int) < k := by omega
 have hk2 : ¬ 262144 < k := by omega
 have HT := Lib.hid hT
 clear hT hTs hp
 refine callsIn_wide.1 (callsIn_of_wp_marks (n := 9) Tryz.func17 rfl trivial (wpIn_wide.2 ?_))
 simp only [Tryz.ntmps17, List.size_toArray, List.length_cons, List.length_nil, Nat.reduceAdd, Nat.reduceSub, Array.replicate_succ, Array.replicate_zero, List.push_toArray, List.append_toArray, List.nil_append, List.cons_append]
 obtain ⟨Q, hQ⟩ : ∃ Q, bodyPostM Fence.wide 9 Tryz.prog Tryz.f17 (PEnd res w) = Q := ⟨_, rfl⟩
 rw [hQ]
 go_wp2_with fail
 refine (HLN.out _).mono ?_
 rintro e w1 ⟨rfl, hw1⟩
 obtain ⟨B, hB⟩ : ∃ B, w.heap.size = B := ⟨_, rfl⟩
 obtain ⟨D, hD⟩ : ∃ D, B + 6 = D := ⟨_, rfl⟩
 have hsz : w1.heap.size = D := by rw [hw1]; simp; omega
 have hl1 : Later w w1 := by rw [hw1]; exact ((((((Later.refl w).alloc _).alloc _).alloc _).alloc _).alloc _).alloc _
 obtain ⟨q0, q1, q2, q3, q4, q5⟩ := heap6 w _ _ _ _ _ _ w1 hw1 B hB
 have hPS : PS w D [] w1 := by
  refine ⟨hl1, by omega, by rw [hB]; exact q0, by rw [hB]; exact q1, by rw [hB]; exact q2, by rw [hB]; exact q4, ([], []), .slice none 0 0, .slice none 0 0, rfl, by rw [hB]; exact q3, World.ownsRow_nil _ _ _ _, World.ownsRow_nil _ _ _ _⟩
 have hTB : w1.cell? ⟨B + 5, 0, none⟩ = some (strV l) ∧ w1.frozen? ⟨B + 5, 0, none⟩ = false := by
  refine ⟨?_, Lib.frozen_of_heap q5 0⟩
  rw [one_cell q5, HT.out]
  rfl
 simp only [World.size_alloc, hB]
 clear hw1
 go_wp2_with fail
 have hD6 : w.heap.size + 6 ≤ D := by omega
 rw [← hsz] at hPS
 refine (wpIn_wide (n := 9)).1 (wp_range_lines 9 rfl (B + 5) l hl (by rfl) (by omega) hTB.1 hTB.2 (fun pre W => PS w w1.heap.size pre W)
  (PX l w w1.heap.size) (PA w w1.heap.size B k T (.func (.func 80) #[] #[.pointer (some ⟨B + 1 + 1 + 1 + 1 + 1, 0, none⟩)]))
  (PS.own (by omega)) (PX.own l (by omega)) (PA.own (by omega)) ?hId ?hIc ?hIm hPS ?hassign ?hbody ?hdone ?hstop)
 case hId => exact fun pre W j h => h.grown (by omega) none ⟨rfl, rfl, rfl, Nat.le_refl _, fun _ _ _ => rfl⟩ (fun r e => by cases e)
 case hIc => exact fun pre W v h => h.other (by omega) (B + 5) (by omega) (by omega) ⟨rfl, rfl, rfl, by simp, fun i hi hb => Below.heap_setCell _ _ _ _ (by simpa using hb)⟩
 case hIm => exact fun pre W h => (hw.later h.later).2.2
 case hstop =>
  rintro D2 W hD2 ⟨n, c, h0, hlW, hbW, k0, k1, k2⟩ hK
  rw [← hQ]
  refine ret17 (PEnd res w) _ W D2 w.heap.size (w.heap.size + 1) (w.heap.size + 2) _ _ n c (by rw [hB]; rfl) (by rw [hB]; rfl) (by rw [hB]; rfl) rfl hK k0 k1 k2 ?_
  rw [← hres, h0]
  exact ⟨⟨hlW.os, hlW.tape, hlW.output, by have := hlW.size; simpa [World.putObj] using this, fun i hi => (World.putObj_heap_other (by omega)).trans (hlW.block i hi)⟩, rfl⟩
 case hassign =>
  intro lc pre x suf W K hi hx hK
  have HK := Lib.hid hK
  have HI := Lib.hid hi
  have HX := Lib.hid hx
  obtain ⟨X1, hX1⟩ : ∃ X1, strV x.1 = X1 := ⟨_, rfl⟩
  obtain ⟨b2, hb2⟩ : ∃ b2, x.2 = b2 := ⟨_, rfl⟩
  rw [hX1, hb2, fold2]
  clear hK hi hx
  refine wpIn_seq_k fun K1 hK1 => ?_
  refine wpIn_reg (by simp [noDefer]) (fun ⟨_, _, h⟩ => h) ?_
  show wpList _ _ _ _ ⟨frP B k T (.func (.func 80) #[] #[.pointer (some ⟨B + 1 + 1 + 1 + 1 + 1, 0, none⟩)]) undef undef X1 (.bool b2), []⟩ W
  unfold frP
  go_wp2_with fail
  refine wpIn_reg (by simp [noDefer]) (fun ⟨_, _, h⟩ => h) ?_
  go_wp2_with fail
  have hPW := HI.out
  have hWs := hPW.big
  have hk1 : KeepsFrom w1.heap.size W (W.alloc (.cells #[.bool b2] 4)) := (KeepsOthers.alloc W _).from _
  have hbk : (W.alloc (.cells #[.bool b2] 4)).heap[B + 5]? = W.heap[B + 5]? := heap_alloc_lt _ _ _ (by omega)
  refine HK.out _ _ hk1 ⟨World.cell?_of_block (a := ⟨B + 5, 0, none⟩) hbk, World.frozen?_of_block (a := ⟨B + 5, 0, none⟩) hbk⟩ ⟨hPW.grown (by omega) none (World.grownBy_alloc W _ none) (fun r e => by cases e), W.heap.size, hWs, ?_, ?_⟩
  ·rw [hb2]; exact (MapKept.heap_alloc W _).1
  ·rw [hX1, hb2]; rfl
 case hdone =>
  rintro D2 W hD2 hps hK
  obtain ⟨hlW, hbW, r0, r1, r2, nb, ⟨es, ps⟩, ev, pv, hrun, hS, ho1, ho2⟩ := hps
  rw [hB] at r0 r1 r2 hS
  have s0 : W.cell? ⟨B + 1 + 1 + 1, 0, none⟩ = some ev := by rw [Lib.cell_of_heap hS]; rfl
  have s1 : W.cell? ⟨B + 1 + 1 + 1, 1, none⟩ = some pv := by rw [Lib.cell_of_heap hS]; rfl
  have HH := Lib.hid (And.intro hlW (And.intro r0 (And.intro r1 (And.intro r2 (And.intro hrun (And.intro ho1 (And.intro ho2 hK)))))))
  have hi45 : (Tryz.prog.info? 45).map (·.size) = some 2 := by kernel_rfl
  have hsl : ∀ {base n size : Nat} {e : TypeId} {v : Value} {xs : List Value}, W.ownsRow base e size v n xs → v.oneCell' = true := fun h => by
   rcases h.2 with ⟨hv, _⟩ | ⟨g, cap, cur, hv, _⟩ <;> rw [hv] <;> rfl
  have hone : #[ev, pv].all (·.oneCell') = true := by simp [hsl ho1, hsl ho2]
  obtain ⟨W5, hW5⟩ : ∃ W5, W.setRow B #[ev, pv] = W5 := ⟨_, rfl⟩
  have t0 : W5.heap[B]? = some (.cells #[ev, pv] 45 (0, 0)) := by rw [← hW5]; exact setRow_heap W B _ _ 45 (0, 0) r0
  have t1 : W5.heap[B + 1]? = some (.cells #[.int .i64 0] 3 (0, 0)) := by rw [← hW5]; exact (setRow_other W B (B + 1) _ (by omega)).trans r1
  have t2 : W5.heap[B + 1 + 1]? = some (.cells #[.int .i64 0] 24 (0, 0)) := by rw [← hW5]; exact (setRow_other W B (B + 2) _ (by omega)).trans r2
  have hk5 : Only B W W5 := by rw [← hW5]; exact ⟨rfl, rfl, rfl, by simp, fun i _ hi => setRow_other W B i _ hi⟩
  have u1 := one_cell t1
  have u2 := one_cell t2
  have g1 : W5.frozen? ⟨B + 1, 0, none⟩ = false := Lib.frozen_of_heap t1 0
  have g2 : W5.frozen? ⟨B + 1 + 1, 0, none⟩ = false := Lib.frozen_of_heap t2 0
  have H5 := Lib.hid (And.intro t0 (And.intro t1 (And.intro t2 (And.intro hk5 (And.intro r0 (And.intro hone hW5))))))
  clear hlW r0 r1 r2 nb hrun hS ho1 ho2 hK hbW t0 t1 t2 hk5 hone hW5 hsl
  go_wp2_with (refine wpList_store_rowTo rfl 45 (.tmp 2) (.tmp 66) rfl rfl B #[ev, pv] rfl rfl 45 #[.slice none 0 0, .slice none 0 0] H5.out.2.2.2.2.1 hi45 rfl H5.out.2.2.2.2.2.1 ?_; rw [H5.out.2.2.2.2.2.2])
  obtain ⟨t0, t1, t2, hk5, -⟩ := H5.out
  obtain ⟨hlW, r0, r1, r2, hrun, ho1, ho2, hK⟩ := HH.out
  have hD2' : D ≤ D2 := by omega
  have hbig : D2 < W.heap.size := (Array.getElem?_eq_some_iff.1 hK).1
  obtain ⟨W6, hW6⟩ : ∃ W6, (W5.setCell ⟨B + 1, 0, none⟩ (.int .i64 0)).setCell ⟨B + 1 + 1, 0, none⟩ (.int .i64 0) = W6 := ⟨_, rfl⟩
  have hk6 : Exc [B, B + 1, B + 1 + 1] W W6 := by
   rw [← hW6]
   exact ((Exc.of_only hk5 (by simp)).trans (Exc.setCell W5 (B + 1) _ (by simp))).trans (Exc.setCell _ (B + 1 + 1) _ (by simp))
  have v0 : W6.heap[B]? = some (.cells #[ev, pv] 45 (0, 0)) := by
   rw [← hW6, Below.heap_setCell _ _ _ _ (by simp; omega), Below.heap_setCell _ _ _ _ (by simp)]
   exact t0
  have v1 : W6.heap[B + 1]? = some (.cells #[.int .i64 0] 3 (0, 0)) := by
   rw [← hW6, Below.heap_setCell _ _ _ _ (by simp)]
   exact one_set t1
  have v2 : W6.heap[B + 1 + 1]? = some (.cells #[.int .i64 0] 24 (0, 0)) := by
   rw [← hW6]
   exact one_set (by rw [Below.heap_setCell _ _ _ _ (by simp)]; exact t2)
  have hK6 : W6.heap[D2]? = some (.deferred (some [])) := (hk6.block D2 hbig (by simp; omega)).trans hK
  have hl6 : Later w W6 := hk6.later hlW (by simp; omega)
  have hown : ∀ {n size : Nat} {e : TypeId} {v : Value} {xs : List Value}, W.ownsRow w1.heap.size e size v n xs → (W6.putObj D2 (.deferred none)).ownsRow w.heap.size e size v n xs := fun {n size e v xs} h => by
   have h1 : W6.ownsRow w1.heap.size e size v n xs := by
    rcases h.2 with hv | ⟨g, cap, cur, e1, e2, e3, e4⟩
    ·exact ⟨h.1, .inl hv⟩
    ·exact ⟨h.1, .inr ⟨g, cap, cur, e1, e2, (hk6.block g (Array.getElem?_eq_some_iff.1 e3).1 (by simp; omega)).trans e3, e4⟩⟩
   have h2 := later_row h1 (some D2) (grownBy_putObj' W6 D2 (.deferred none)) (fun r e => by cases e; exact ⟨_, hK6, rfl⟩)
   obtain ⟨a1, a2⟩ := h2
   refine ⟨a1, ?_⟩
   rcases a2 with a2 | ⟨g, cap, cur, e1, e2, e3⟩
   ·exact .inl a2
   ·exact .inr ⟨g, cap, cur, e1, by omega, e3⟩
  rw [hW6, ← hQ]
  refine ret17 (PEnd res w) _ W6 D2 B (B + 1) (B + 1 + 1) ev pv 0 0 rfl rfl rfl rfl hK6 v0 v1 v2 ?_
  rw [← hres, hrun]
  exact ⟨⟨hl6.os, hl6.tape, hl6.output, by have := hl6.size; simpa [World.putObj] using this, fun i hi => (World.putObj_heap_other (by omega)).trans (hl6.block i hi)⟩, ev, pv, rfl, hown ho1, hown ho2⟩
 case hbody =>
  rintro lc pre x suf a' W ⟨hps, P8, hP8, h8, rfl⟩ hx
  have hout : ¬ LetsOut (lnPost w1.heap.size (B + 5) (PS w w1.heap.size (pre ++ [x])) (PX l w w1.heap.size) W) := lnPost_out
  obtain ⟨Q0, hQ0⟩ : ∃ Q0, lnPost w1.heap.size (B + 5) (PS w w1.heap.size (pre ++ [x])) (PX l w w1.heap.size) W = Q0 := ⟨_, rfl⟩
  rw [hQ0] at hout ⊢
  refine wpIn_block ?_
  refine wpIn_seq_k fun K1 hK1 => ?_
  refine wpIn_reg (by simp [noDefer]) (fun ⟨a, w, h⟩ => hout ⟨a, w, h⟩) ?_
  unfold frP
  have hxl := lns_len hx
  have HSP := Lib.hid (split_sp x.1 (by omega) W (hw.later hps.later))
  obtain ⟨S, hS⟩ : ∃ S : ByteArray, ⟨x.1.toArray⟩ = S := ⟨_, rfl⟩
  unfold strV
  rw [hS] at HSP ⊢
  obtain ⟨ws, hws⟩ : ∃ ws, spl x.1 = ws := ⟨_, rfl⟩
  rw [hws] at HSP
  obtain ⟨m, hm⟩ : ∃ m, ws.length = m := ⟨_, rfl⟩
  rw [hm] at HSP
  go_wp2_with fail
  refine HSP.out.mono ?_
  rintro e w2 ⟨rfl, hw2⟩
  go_wp2_with fail
  refine wpIn_seq_k fun K2 hK2 => ?_
  refine wpIn_reg (by simp [noDefer]) (fun ⟨a, w, h⟩ => hout ⟨a, w, h⟩) ?_
  go_wp2_with fail
  refine wpIn_seq_k fun K3 hK3 => ?_
  refine wpIn_reg (by simp [noDefer]) (fun ⟨a, w, h⟩ => hout ⟨a, w, h⟩) ?_
  go_wp2_with fail
  obtain ⟨L, hL⟩ : ∃ L, W.heap.size = L := ⟨_, rfl⟩
  obtain ⟨W4, hW4⟩ : ∃ W4, W4 = ((((W.alloc (.cells (wsC (spl x.1)).toArray 9)).alloc (.cells (reqRow req0 (.slice (some ⟨L, 0, none⟩) (spl x.1).length (spl x.1).length)) 83)).alloc (.cells #[.pointer (some ⟨L + 1, 0, none⟩)] 74)).alloc (.cells #[.slice none 0 0] 43)).alloc (.cells #[.int .i64 0] 3) := ⟨_, rfl⟩
  obtain ⟨hp1, hl4, hs4⟩ := p1_new x (by omega) W (hw.later hps.later) L P8 hL h8 W4 hW4
  rw [hws, hm] at hW4
  simp only [reqRow, req0, strV] at hW4
  rw [hL, ← hW4]
  have HT4 := Lib.hid (try_line (L + 1) (L + 2) P8 (L + 2) (L + 3) (L + 4) x W4 hp1)
  have HP1 := Lib.hid (And.intro hl4 hs4)
  have HC9 := Lib.hid hp1.c9
  have HXL := Lib.hid hxl
  have HXL : Hid (x.1.length ≤ 262144) := Lib.hid (Nat.le_trans HXL.out hl)
  have hmf : ∀ (fn : Fn) (first cap : Array Value) (w : World), (Instr.makeFunc fn first cap).run Tryz.prog w = .ok (.func fn first cap) w := fun _ _ _ _ => rfl
  clear hW4 hp1 hl4 hs4
  refine wpIn_seq_k fun K4 hK4 => ?_
  refine wpIn_reg (by simp [noDefer]) (fun ⟨a, w, h⟩ => hout ⟨a, w, h⟩) ?_
  go_wp2_with fail
  refine HT4.out.mono ?_
  obtain ⟨st, hst, hmid0⟩ := PMid.of hps
  have HST := Lib.hid hst
  have HMID := Lib.hid hmid0
  have HX := Lib.hid hx
  have HB := Lib.hid hB
  have HSZ := Lib.hid (show w.heap.size + 6 ≤ w1.heap.size by omega)
  have HPL := Lib.hid (show pre.length ≤ 262145 by
   have h1 := lsum_lns l
   have h2 : (lns l).length ≤ lsum (lns l) := len_lsum _
   rw [hx] at h2
   rw [hx] at h1
   simp only [List.length_append, List.length_cons] at h2
   omega)
  have HL4 := Lib.hid (And.intro HP1.out.1 HP1.out.2)
  clear hst hmid0 HP1 HSP hps hx hxl hTB hsz hB hD hD6
  rintro e w5 (⟨rfl, w6, hTR, rfl⟩ | ⟨rfl, w6, ⟨hln, hex⟩, rfl⟩)
  ·obtain ⟨hex, hres⟩ := hTR
   have hs6 : W4.heap.size + 1 ≤ w6.heap.size := by have := hex.size; simpa using this
   have hlate : Later W (w6.setCell ⟨W4.heap.size, 0, none⟩ (.bool true)) := by
    have h1 := HL4.out.1
    have h2 := HL4.out.2
    refine (hex.later (h1.alloc _) (fun b hb => ?_)).setCell _ _ (by show W.heap.size ≤ W4.heap.size; omega)
    simp at hb; omega
   have hsame : ∀ k, k ≠ W4.heap.size → (w6.setCell ⟨W4.heap.size, 0, none⟩ (.bool true)).heap[k]? = w6.heap[k]? := fun k hk => Below.heap_setCell _ _ _ _ (by simpa using hk)
   have h9 : (w6.setCell ⟨W4.heap.size, 0, none⟩ (.bool true)).heap[L + 2]? = some (.cells #[.pointer (some ⟨L + 1, 0, none⟩)] 74 (0, 0)) := by
    have h2 := HL4.out.2
    rw [hsame _ (by omega), hex.block (L + 2) (by simp; omega) (by simp), heap_alloc_lt _ _ _ (by omega)]
    exact HC9.out
   have hown6 : ∀ {n : Nat} {v : Value} {xs : List Value}, w6.ownsRow (W4.alloc (.cells #[.bool false] 4)).heap.size 3 1 v n xs → (w6.setCell ⟨W4.heap.size, 0, none⟩ (.bool true)).ownsRow (W4.alloc (.cells #[.bool false] 4)).heap.size 3 1 v n xs := fun h => own_set h (by simp)
   have hrd6 : ∀ {r : Req} {ws : List (List UInt8)}, RdQ (L + 1) (L + 2) r ws w6 → RdQ (L + 1) (L + 2) r ws (w6.setCell ⟨W4.heap.size, 0, none⟩ (.bool true)) := fun h => h.below ((Below.refl (L + 2) w6).setCell (p := ⟨W4.heap.size, 0, none⟩) (by show L + 2 ≤ W4.heap.size; have h2 := HL4.out.2; omega) _)
   cases hy : lnP x with
   | none => rw [hy] at hres; exact hres.elim
   | some y =>
    have HY := Lib.hid hy
    rw [hy] at hres
    have hmid := HMID.out.after HSZ.out hlate
    cases y with
    | inl pl =>
     obtain ⟨hne, u, h10, hown⟩ := hres
     have hx2 : lnP (x.1, true) = some (.inl pl) := by
      have h2 : x.2 = true := by
       unfold lnP at hy
       split at hy
       ·assumption
       ·cases hy
      rw [← hy, ← h2]
     obtain ⟨-, -, hjn⟩ := line_pk hx2
     rw [jn_tl] at hjn
     have hpl : pl.length ≤ 262144 := by
      have h1 := congrArg List.length hjn
      have h2 := ptot_ge pl
      unfold ptot at h2
      rw [List.length_append] at h1
      have h3 := HXL.out
      omega
     have h10' := (hsame (L + 3) (by have h2 := HL4.out.2; omega)).trans h10
     have hownV := hown6 hown
     obtain ⟨g, cap, rfl⟩ := ownsRow_some hownV (List.length_pos_iff.2 hne)
     have hcells := hownV.cells (g := g) rfl
     obtain ⟨V, hV⟩ : ∃ V, w6.setCell ⟨W4.heap.size, 0, none⟩ (.bool true) = V := ⟨_, rfl⟩
     rw [hV] at hlate hmid h9 h10' hcells ⊢
     obtain ⟨ev, pv, hS, hev, hpv⟩ := hmid.st
     have hbs := big_le (s := st) (by rw [run_big _ _ _ _ HST.out rfl]; simp)
     have s0 : V.cell? ⟨w.heap.size + 3, 0, none⟩ = some ev := by rw [Lib.cell_of_heap hS]; rfl
     have s1 : V.cell? ⟨w.heap.size + 3, 1, none⟩ = some pv := by rw [Lib.cell_of_heap hS]; rfl
     rw [HB.out] at s0 s1
     have c10 := one_cell h10'
     obtain ⟨c, hc⟩ : ∃ c, pl.length = c := ⟨_, rfl⟩
     rw [hc] at c10
     have hc0 : 0 < c := by rw [← hc]; exact List.length_pos_iff.2 hne
     have hc1 : (0 : Int) < (c : Int) := by omega
     have hc2 : decide ((0 : Int) < (c : Int)) = true := by simpa using hc0
     have HCC := Lib.hid hc
     have HCE := Lib.hid hcells
     have HS := Lib.hid hS
     have HEV := Lib.hid hev
     have HPV := Lib.hid hpv
     have HM := Lib.hid hmid
     have HBS := Lib.hid (And.intro hbs hpl)
     have hbg := hmid.big
     have HBG0 := Lib.hid hbg
     clear hlate hs6 hsame h9 hown6 hrd6 hy hres hne h10 hown hx2 hjn hpl h10' hownV hcells hV hS hev hpv hmid hbs hc hbg hex
     obtain ⟨i0, hi, hz0, hz1, hz2⟩ := info_parts info3
     go_wp2_with fail
     refine wpIn_seq_k fun K5 hK5 => ?_
     refine wpIn_block ?_
     refine wpIn_seq_k fun K6 hK6 => ?_
     refine wpIn_reg (by simp [noDefer]) (fun ⟨a, w, h⟩ => hout ⟨a, w, h⟩) ?_
     go_wp2_with fail
     refine wpIn_cond_false rfl ?_
     refine wpIn_seq_k fun K7 hK7 => ?_
     refine wpIn_reg (by simp [noDefer]) (fun ⟨a, w, h⟩ => hout ⟨a, w, h⟩) ?_
     go_wp2_with fail
     refine wpIn_cond_true rfl ?_
     refine wpIn_reg (by simp [noDefer]) (fun ⟨a, w, h⟩ => hout ⟨a, w, h⟩) ?_
     go_wp2_with (at_builtin; refine wpList_append_own _ rfl _ _ 43 rfl w1.heap.size 3 i0 (.int .i64 0) 1 8 Tryz.underlying43 hi hz0 hz1 hz2 rfl (by decide) _ _ _ rfl HPV.out ⟨g, 0, none⟩ c cap (ints pl) rfl ?c1 ?c2 ?c2b ?c3 ?c4 ?c5 ?_)
     case c1 => simp [ints, HCC.out]
     case c2 => exact HCE.out
     case c2b => intro u hu; obtain ⟨z, _, rfl⟩ := List.mem_map.1 hu; rfl
     case c3 => (have := HBS.out; have := HCC.out; unfold maxLen; omega)
     case c4 => (have := HBS.out; have := HCC.out; omega)
     case c5 => (have := HBG0.out; omega)
     intro s3 W6 hown6 hgrow _
     obtain ⟨k1, k2, k3, k4⟩ := HM.out.grow (base := w1.heap.size) HSZ.out HPV.out hgrow
     have hS6 := (k3 (w.heap.size + 3) (by have := HSZ.out; omega)).trans HS.out
     have t1 : W6.cell? ⟨w.heap.size + 3, 1, none⟩ = some pv := by rw [Lib.cell_of_heap hS6]; rfl
     have z1 : W6.frozen? ⟨w.heap.size + 3, 1, none⟩ = false := Lib.frozen_of_heap hS6 1
     have hn := HM.out.picks HSZ.out (l := pl) HS.out HEV.out HPV.out (by rw [HCC.out]; exact hown6) hgrow
     obtain ⟨a3, n3, c3, rfl⟩ : ∃ a3 n3 c3, s3 = .slice a3 n3 c3 := by
      rcases hown6.2 with ⟨rfl, _⟩ | ⟨g9, cap9, cur9, rfl, _⟩
      ·exact ⟨_, _, _, rfl⟩
      ·exact ⟨_, _, _, rfl⟩
     rw [HB.out] at t1 z1 hn
     have HN0 := Lib.hid hn
     clear hown6 hgrow k1 k2 k3 k4 hS6 hn
     go_wp2_with fail
     obtain ⟨st', hst'⟩ : ∃ st' : Scr, st' = (st.1, st.2 ++ pl) := ⟨_, rfl⟩
     have HAD := Lib.hid (show addP st (.inl pl) = st' from hst'.symm)
     obtain ⟨V7, hV7⟩ : ∃ V7, W6.setCell ⟨B + 3, 1, none⟩ (.slice a3 n3 c3) = V7 := ⟨_, rfl⟩
     have hV7' : W6.setCell ⟨B + 1 + 1 + 1, 1, none⟩ (.slice a3 n3 c3) = V7 := hV7
     have HN := Lib.hid (show PMid w w1.heap.size pre.length st' W V7 by rw [hst', ← hV7]; exact HN0.out)
     rw [hV7']
     clear HN0 hst' hV7 hV7' t1 z1
     have hN := HN.out
     obtain ⟨ev9, pv9, hS9, hev9, hpv9⟩ := hN.st
     obtain ⟨a1, cp1, rfl⟩ : ∃ a1 cp1, ev9 = .slice a1 st'.1.length cp1 := by
      rcases hev9.2 with ⟨rfl, h0⟩ | ⟨g9, cap9, cur9, rfl, _⟩
      ·exact ⟨none, 0, by rw [h0]⟩
      ·exact ⟨_, _, rfl⟩
     obtain ⟨a2, cp2, rfl⟩ : ∃ a2 cp2, pv9 = .slice a2 st'.2.length cp2 := by
      rcases hpv9.2 with ⟨rfl, h0⟩ | ⟨g9, cap9, cur9, rfl, _⟩
      ·exact ⟨none, 0, by rw [h0]⟩
      ·exact ⟨_, _, rfl⟩
     obtain ⟨n1, hn1⟩ : ∃ n1, st'.1.length = n1 := ⟨_, rfl⟩
     obtain ⟨n2, hn2⟩ : ∃ n2, st'.2.length = n2 := ⟨_, rfl⟩
     rw [hn1, hn2] at hS9
     have s0 : V7.cell? ⟨w.heap.size + 3, 0, none⟩ = some (.slice a1 n1 cp1) := by rw [Lib.cell_of_heap hS9]; rfl
     have s1 : V7.cell? ⟨w.heap.size + 3, 1, none⟩ = some (.slice a2 n2 cp2) := by rw [Lib.cell_of_heap hS9]; rfl
     have s4 := one_cell hN.nb
     have g4 := Lib.frozen_of_heap hN.nb 0
     rw [HB.out] at s0 s1 s4 g4
     have hbig : bigP st' = (decide (4096 < n1) || decide (65536 < n2)) := by unfold bigP; rw [hn1, hn2]
     have HBIG := Lib.hid hbig
     clear hN hS9 hev9 hpv9 hn1 hn2 hbig
     refine wpIn_seq_k fun K8 hK8 => ?_
     refine wpIn_seq_k fun K9 hK9 => ?_
     by_cases hb1 : 4096 < n1
     ·have hd1 : decide ((4096 : Int) < (n1 : Int)) = true := by simp; omega
      have hd2 : (4096 : Int) < (n1 : Int) := by omega
      have HBG := Lib.hid (show bigP st' = true by rw [HBIG.out]; simp [hb1])
      have HERR := Lib.hid (show runP (lns l) ([], []) 0 = .error (pre.length, 3) by
       rw [HX.out]
       refine runP_stop HST.out ?_
       unfold stP
       rw [HY.out]
       simp only
       rw [HAD.out, if_pos HBG.out])
      have HE := Lib.hid (HN.out.ew 3)
      refine wpIn_reg (by simp [noDefer]) (fun ⟨a, w, h⟩ => hout ⟨a, w, h⟩) ?_
      go_wp2_with fail
      refine wpIn_cond_true rfl ?_
      refine wpIn_seq_k fun K10 hK10 => ?_
      refine wpIn_reg_iv rfl (by simp [noDefer]) (fun ⟨a, w, h⟩ => hout ⟨a, w, h⟩) (fun D' a' W' => ∃ xa xb, a' = ⟨#[.string T, undef, .pointer (some ⟨B, 0, none⟩), .pointer (some ⟨B + 1, 0, none⟩), .pointer (some ⟨B + 1 + 1, 0, none⟩), .pointer (some ⟨B + 1 + 1 + 1, 0, none⟩), .pointer (some ⟨B + 1 + 1 + 1 + 1, 0, none⟩), .string S, .pointer (some ⟨P8, 0, none⟩), .pointer (some ⟨L + 1 + 1, 0, none⟩), .pointer (some ⟨L + 1 + 1 + 1, 0, none⟩), .pointer (some ⟨L + 1 + 1 + 1 + 1, 0, none⟩), .bool true, .string T, .int .i64 k, .bool false, undef, .string T, .func (.func 80) #[] #[.pointer (some ⟨B + 1 + 1 + 1 + 1 + 1, 0, none⟩)], .string S, .bool x.2, .string S, .slice (some ⟨L, 0, none⟩) m m, rdV L m, .pointer (some ⟨L + 1, 0, none⟩), .func (.func 43) #[] #[.pointer (some ⟨P8, 0, none⟩), .pointer (some ⟨L + 1 + 1, 0, none⟩), .pointer (some ⟨L + 1 + 1 + 1, 0, none⟩), .pointer (some ⟨L + 1 + 1 + 1 + 1, 0, none⟩)], .bool true, undef, undef, undef, undef, undef, undef, undef, undef, undef, undef, undef, .bool false, .bool true, .bool false, undef, undef, .bool true, .slice (some ⟨g, 0, none⟩) c cap, .int .i64 (c : Int), .bool true, .pointer (some ⟨B + 1 + 1 + 1, 1, none⟩), pv, .slice (some ⟨g, 0, none⟩) c cap, .slice a3 n3 c3, .pointer (some ⟨B + 1 + 1 + 1, 1, none⟩), .pointer (some ⟨B + 1 + 1 + 1, 0, none⟩), .slice a1 n1 cp1, .int .i64 (n1 : Int), .bool true, .bool true, undef, undef, undef, undef, .bool true, xa, xb, undef, undef, undef], []⟩ ∧ EW w w1.heap.size pre.length 3 W (D' 3) (D' 4) W' ∧ (D' 0 = true → xa = .agg #[.slice none 0 0, .slice none 0 0]) ∧ (D' 1 = true → xb = .int .i64 (pre.length : Int))) (by kernel_rfl) ?_ ?_ ?_
      ·exact ⟨undef, undef, rfl, HE.out.drew, (fun h => by cases h), (fun h => by cases h)⟩
      ·intro i D' a' W' hi hDi hdep hcl hI
       obtain ⟨xa, xb, rfl, hE, f0, f1⟩ := hI
       have hi' : i = 0 ∨ i = 1 ∨ i = 2 ∨ i = 3 ∨ i = 4 := by
        have : i < 5 := hi
        omega
       have e0 := hE.r0
       have e1 := one_cell hE.r1
       have e2 := one_cell hE.r2
       have e4 := one_cell hE.nb
       have g1 := Lib.frozen_of_heap hE.r1 0
       have g2 := Lib.frozen_of_heap hE.r2 0
       have HEE := Lib.hid hE
       rw [HB.out] at e0 e1 e2 e4 g1 g2
       clear hE
       rcases hi' with rfl | rfl | rfl | rfl | rfl
       ·refine wpOp_step rfl (fun K' hK' => ?_)
        rw [if_pos (by rfl)]
        go_simp
        exact hK' _ _ ⟨_, xb, rfl, HEE.out, (fun _ => rfl), f1⟩
       ·refine wpOp_step rfl (fun K' hK' => ?_)
        rw [if_pos (by rfl)]
        go_simp
        exact hK' _ _ ⟨xa, _, rfl, HEE.out, f0, (fun _ => rfl)⟩
       ·have q0 := f0 (hdep 0 (by kernel_rfl))
        subst q0
        refine wpOp_step rfl (fun K' hK' => ?_)
        rw [if_pos (by rfl)]
        refine wp_store_row 45 (.tmp 2) (.tmp 62) rfl B #[.slice none 0 0, .slice none 0 0] rfl rfl 45 #[.slice none 0 0, .slice none 0 0] e0 (by kernel_rfl) rfl (by simp [Value.oneCell']) ?_
        have hrow := HEE.out.row
        rw [HB.out] at hrow
        exact hK' _ _ ⟨_, xb, rfl, hrow, (fun _ => rfl), f1⟩
       ·have q1 := f1 (hdep 1 (by kernel_rfl))
        subst q1
        have HS := Lib.hid (show EW w w1.heap.size pre.length 3 W true (D' 4) (W'.setCell ⟨B + 1, 0, none⟩ (.int .i64 (pre.length : Int))) by
         have h3 := HEE.out
         rw [hDi] at h3
         have := h3.set1 (by have := HSZ.out; omega) _ rfl
         rwa [HB.out] at this)
        have HF0 := Lib.hid f0
        clear f0 f1
        refine wpOp_step rfl (fun K' hK' => ?_)
        rw [if_pos (by rfl)]
        go_simp
        exact hK' _ _ ⟨xa, _, rfl, HS.out, HF0.out, (fun _ => rfl)⟩
       ·have HS := Lib.hid (show EW w w1.heap.size pre.length 3 W (D' 3) true (W'.setCell ⟨B + 1 + 1, 0, none⟩ (.int .i64 3)) by
         have h3 := HEE.out
         rw [hDi] at h3
         have := h3.set2 (by have := HSZ.out; omega)
         rwa [HB.out] at this)
        have HF0 := Lib.hid (And.intro f0 f1)
        clear f0 f1
        refine wpOp_step rfl (fun K' hK' => ?_)
        rw [if_pos (by rfl)]
        go_simp
        exact hK' _ _ ⟨xa, xb, rfl, HS.out, HF0.out.1, HF0.out.2⟩
      ·rintro D' a' W' hD' ⟨xa, xb, rfl, hE, -, -⟩
       have d3 := hD' 3 (by decide)
       have d4 := hD' 4 (by decide)
       rw [d3, d4] at hE
       refine hK10 _ _ (wpIn_ret ?_)
       show Q0 .ret _ _
       rw [← hQ0]
       exact ⟨hE.kf, pre.length, _, HERR.out, hE.later, hE.big, hE.r0, hE.r1, hE.r2⟩
     ·have hd1 : decide ((4096 : Int) < (n1 : Int)) = false := by simp; omega
      have hd1' : ¬ (4096 : Int) < (n1 : Int) := by omega
      by_cases hb2 : 65536 < n2
      ·have hd2 : decide ((65536 : Int) < (n2 : Int)) = true := by simp; omega
       have hd3 : (65536 : Int) < (n2 : Int) := by omega
       have HBG := Lib.hid (show bigP st' = true by rw [HBIG.out]; simp [hb2])
       have HERR := Lib.hid (show runP (lns l) ([], []) 0 = .error (pre.length, 3) by
        rw [HX.out]
        refine runP_stop HST.out ?_
        unfold stP
        rw [HY.out]
        simp only
        rw [HAD.out, if_pos HBG.out])
       have HE := Lib.hid (HN.out.ew 3)
       refine wpIn_reg (by simp [noDefer]) (fun ⟨a, w, h⟩ => hout ⟨a, w, h⟩) ?_
       go_wp2_with fail
       refine wpIn_cond_true rfl ?_
       refine wpIn_seq_k fun K10 hK10 => ?_
       refine wpIn_reg_iv rfl (by simp [noDefer]) (fun ⟨a, w, h⟩ => hout ⟨a, w, h⟩) (fun D' a' W' => ∃ xa xb, a' = ⟨#[.string T, undef, .pointer (some ⟨B, 0, none⟩), .pointer (some ⟨B + 1, 0, none⟩), .pointer (some ⟨B + 1 + 1, 0, none⟩), .pointer (some ⟨B + 1 + 1 + 1, 0, none⟩), .pointer (some ⟨B + 1 + 1 + 1 + 1, 0, none⟩), .string S, .pointer (some ⟨P8, 0, none⟩), .pointer (some ⟨L + 1 + 1, 0, none⟩), .pointer (some ⟨L + 1 + 1 + 1, 0, none⟩), .pointer (some ⟨L + 1 + 1 + 1 + 1, 0, none⟩), .bool true, .string T, .int .i64 k, .bool false, undef, .string T, .func (.func 80) #[] #[.pointer (some ⟨B + 1 + 1 + 1 + 1 + 1, 0, none⟩)], .string S, .bool x.2, .string S, .slice (some ⟨L, 0, none⟩) m m, rdV L m, .pointer (some ⟨L + 1, 0, none⟩), .func (.func 43) #[] #[.pointer (some ⟨P8, 0, none⟩), .pointer (some ⟨L + 1 + 1, 0, none⟩), .pointer (some ⟨L + 1 + 1 + 1, 0, none⟩), .pointer (some ⟨L + 1 + 1 + 1 + 1, 0, none⟩)], .bool true, undef, undef, undef, undef, undef, undef, undef, undef, undef, undef, undef, .bool false, .bool true, .bool false, undef, undef, .bool true, .slice (some ⟨g, 0, none⟩) c cap, .int .i64 (c : Int), .bool true, .pointer (some ⟨B + 1 + 1 + 1, 1, none⟩), pv, .slice (some ⟨g, 0, none⟩) c cap, .slice a3 n3 c3, .pointer (some ⟨B + 1 + 1 + 1, 1, none⟩), .pointer (some ⟨B + 1 + 1 + 1, 0, none⟩), .slice a1 n1 cp1, .int .i64 (n1 : Int), .bool false, .bool false, .pointer (some ⟨B + 1 + 1 + 1, 1, none⟩), .slice a2 n2 cp2, .int .i64 (n2 : Int), .bool true, .bool true, xa, xb, undef, undef, undef], []⟩ ∧ EW w w1.heap.size pre.length 3 W (D' 3) (D' 4) W' ∧ (D' 0 = true → xa = .agg #[.slice none 0 0, .slice none 0 0]) ∧ (D' 1 = true → xb = .int .i64 (pre.length : Int))) (by kernel_rfl) ?_ ?_ ?_
       ·exact ⟨undef, undef, rfl, HE.out.drew, (fun h => by cases h), (fun h => by cases h)⟩
       ·intro i D' a' W' hi hDi hdep hcl hI
        obtain ⟨xa, xb, rfl, hE, f0, f1⟩ := hI
        have hi' : i = 0 ∨ i = 1 ∨ i = 2 ∨ i = 3 ∨ i = 4 := by
         have : i < 5 := hi
         omega
        have e0 := hE.r0
        have e1 := one_cell hE.r1
        have e2 := one_cell hE.r2
        have e4 := one_cell hE.nb
        have g1 := Lib.frozen_of_heap hE.r1 0
        have g2 := Lib.frozen_of_heap hE.r2 0
        have HEE := Lib.hid hE
        rw [HB.out] at e0 e1 e2 e4 g1 g2
        clear hE
        rcases hi' with rfl | rfl | rfl | rfl | rfl
        ·refine wpOp_step rfl (fun K' hK' => ?_)
         rw [if_pos (by rfl)]
         go_simp
         exact hK' _ _ ⟨_, xb, rfl, HEE.out, (fun _ => rfl), f1⟩
        ·refine wpOp_step rfl (fun K' hK' => ?_)
         rw [if_pos (by rfl)]
         go_simp
         exact hK' _ _ ⟨xa, _, rfl, HEE.out, f0, (fun _ => rfl)⟩
        ·have q0 := f0 (hdep 0 (by kernel_rfl))
         subst q0
         refine wpOp_step rfl (fun K' hK' => ?_)
         rw [if_pos (by rfl)]
         refine wp_store_row 45 (.tmp 2) (.tmp 62) rfl B #[.slice none 0 0, .slice none 0 0] rfl rfl 45 #[.slice none 0 0, .slice none 0 0] e0 (by kernel_rfl) rfl (by simp [Value.oneCell']) ?_
         have hrow := HEE.out.row
         rw [HB.out] at hrow
         exact hK' _ _ ⟨_, xb, rfl, hrow, (fun _ => rfl), f1⟩
        ·have q1 := f1 (hdep 1 (by kernel_rfl))
         subst q1
         have HS := Lib.hid (show EW w w1.heap.size pre.length 3 W true (D' 4) (W'.setCell ⟨B + 1, 0, none⟩ (.int .i64 (pre.length : Int))) by
          have h3 := HEE.out
          rw [hDi] at h3
          have := h3.set1 (by have := HSZ.out; omega) _ rfl
          rwa [HB.out] at this)
         have HF0 := Lib.hid f0
         clear f0 f1
         refine wpOp_step rfl (fun K' hK' => ?_)
         rw [if_pos (by rfl)]
         go_simp
         exact hK' _ _ ⟨xa, _, rfl, HS.out, HF0.out, (fun _ => rfl)⟩
        ·have HS := Lib.hid (show EW w w1.heap.size pre.length 3 W (D' 3) true (W'.setCell ⟨B + 1 + 1, 0, none⟩ (.int .i64 3)) by
          have h3 := HEE.out
          rw [hDi] at h3
          have := h3.set2 (by have := HSZ.out; omega)
          rwa [HB.out] at this)
         have HF0 := Lib.hid (And.intro f0 f1)
         clear f0 f1
         refine wpOp_step rfl (fun K' hK' => ?_)
         rw [if_pos (by rfl)]
         go_simp
         exact hK' _ _ ⟨xa, xb, rfl, HS.out, HF0.out.1, HF0.out.2⟩
       ·rintro D' a' W' hD' ⟨xa, xb, rfl, hE, -, -⟩
        have d3 := hD' 3 (by decide)
        have d4 := hD' 4 (by decide)
        rw [d3, d4] at hE
        refine hK10 _ _ (wpIn_ret ?_)
        show Q0 .ret _ _
        rw [← hQ0]
        exact ⟨hE.kf, pre.length, _, HERR.out, hE.later, hE.big, hE.r0, hE.r1, hE.r2⟩
      ·have hd2 : decide ((65536 : Int) < (n2 : Int)) = false := by simp; omega
       have hd2' : ¬ (65536 : Int) < (n2 : Int) := by omega
       have HBG := Lib.hid (show bigP st' = false by rw [HBIG.out]; simp [hb1, hb2])
       have HRUN := Lib.hid (show runP (pre ++ [x]) ([], []) 0 = .ok st' by
        refine runP_next (suf := []) HST.out ?_
        unfold stP
        rw [HY.out]
        simp only
        rw [HAD.out, HBG.out]
        rfl)
       have hm1 : IntKind.i64.wrap ((pre.length : Int) + 1) = (pre.length : Int) + 1 := IntWalk.i64_in _ (by have := HPL.out; omega)
       have HFIN := Lib.hid (HN.out.count (by have := HSZ.out; omega) ((pre.length : Int) + 1) (by simp) (pre ++ [x]) (by simp) HRUN.out)
       have hp1 : (pre.length : Int) ≤ 262145 := by have := HPL.out; omega
       refine wpIn_reg (by simp [noDefer]) (fun ⟨a, w, h⟩ => hout ⟨a, w, h⟩) ?_
       go_wp2_with fail
       refine wpIn_cond_false rfl ?_
       refine wpIn_skip (hK8 _ _ ?_)
       refine wpIn_reg (by simp [noDefer]) (fun ⟨a, w, h⟩ => hout ⟨a, w, h⟩) ?_
       go_wp2_with fail
       show Q0 .normal _ _
       rw [← hQ0]
       have hfin := HFIN.out
       rw [HB.out] at hfin
       exact ⟨hfin.2.1, ⟨World.cell?_of_block (a := ⟨B + 5, 0, none⟩) hfin.2.2, World.frozen?_of_block (a := ⟨B + 5, 0, none⟩) hfin.2.2⟩, hfin.1⟩
    | inr z =>
     obtain ⟨nn, r⟩ := z
     obtain ⟨h10, h11, hrd⟩ := hres
     have h10' := (hsame (L + 3) (by have h2 := HL4.out.2; omega)).trans h10
     have h11' := (hsame (L + 4) (by have h2 := HL4.out.2; omega)).trans h11
     obtain ⟨v0, hv0⟩ := hrd6 hrd
     have hrg := rd_range hv0
     have hVs : L + 5 < (w6.setCell ⟨W4.heap.size, 0, none⟩ (.bool true)).heap.size := by have h2 := HL4.out.2; simp; omega
     obtain ⟨V, hV⟩ : ∃ V, w6.setCell ⟨W4.heap.size, 0, none⟩ (.bool true) = V := ⟨_, rfl⟩
     rw [hV] at hlate hmid h9 h10' h11' hrg hVs ⊢
     obtain ⟨ev, pv, hS, hev, hpv⟩ := hmid.st
     have hbs := big_le (s := st) (by rw [run_big _ _ _ _ HST.out rfl]; simp)
     have hbg := hmid.big
     have s0 : V.cell? ⟨w.heap.size + 3, 0, none⟩ = some ev := by rw [Lib.cell_of_heap hS]; rfl
     rw [HB.out] at s0
     have c9 := one_cell h9
     have c10 := one_cell h10'
     have c11 := one_cell h11'
     have HCS := Lib.hid (And.intro s0 (And.intro c9 (And.intro c11 (And.intro hrg hVs))))
     have HS := Lib.hid hS
     have HEV := Lib.hid hev
     have HPV := Lib.hid hpv
     have HM := Lib.hid hmid
     have HBS := Lib.hid hbs
     have HBG0 := Lib.hid hbg
     clear hlate hs6 hsame h9 hown6 hrd6 hy hres h10 h11 hrd h10' h11' hv0 hrg hVs hV hS hev hpv hmid hbs hbg s0 c9 c11 hex
     go_wp2_with fail
     refine wpIn_seq_k fun K5 hK5 => ?_
     refine wpIn_block ?_
     refine wpIn_seq_k fun K6 hK6 => ?_
     refine wpIn_reg (by simp [noDefer]) (fun ⟨a, w, h⟩ => hout ⟨a, w, h⟩) ?_
     go_wp2_with fail
     refine wpIn_cond_false rfl ?_
     refine wpIn_seq_k fun K7 hK7 => ?_
     refine wpIn_reg (by simp [noDefer]) (fun ⟨a, w, h⟩ => hout ⟨a, w, h⟩) ?_
     go_wp2_with fail
     refine wpIn_cond_false rfl ?_
     clear c10
     have hi59 : (Tryz.prog.info? 59).map (fun i => (i.zero, i.size, i.bytes)) = some (some (.agg #[.int .i64 0, .int .i64 0, .int .i64 0, .int .u32 0, .int .u8 0, .string ⟨#[]⟩, .string ⟨#[]⟩, .string ⟨#[]⟩, .int .i64 0, .int .i64 0, .int .u64 0, .int .u64 0, .int .u8 0]), 13, 120) := by kernel_rfl
     have HI59 := Lib.hid (info_parts hi59)
     clear hi59
     refine wpIn_reg_iv rfl (by simp [noDefer]) (fun ⟨a, w, h⟩ => hout ⟨a, w, h⟩) (fun D' a' W' => ∃ x27 x28 x29 x30 x31 x32 x33 x34 x35 x36 x37, a' = ⟨#[.string T, undef, .pointer (some ⟨B, 0, none⟩), .pointer (some ⟨B + 1, 0, none⟩), .pointer (some ⟨B + 1 + 1, 0, none⟩), .pointer (some ⟨B + 1 + 1 + 1, 0, none⟩), .pointer (some ⟨B + 1 + 1 + 1 + 1, 0, none⟩), .string S, .pointer (some ⟨P8, 0, none⟩), .pointer (some ⟨L + 1 + 1, 0, none⟩), .pointer (some ⟨L + 1 + 1 + 1, 0, none⟩), .pointer (some ⟨L + 1 + 1 + 1 + 1, 0, none⟩), .bool true, .string T, .int .i64 k, .bool false, undef, .string T, .func (.func 80) #[] #[.pointer (some ⟨B + 1 + 1 + 1 + 1 + 1, 0, none⟩)], .string S, .bool x.2, .string S, .slice (some ⟨L, 0, none⟩) m m, rdV L m, .pointer (some ⟨L + 1, 0, none⟩), .func (.func 43) #[] #[.pointer (some ⟨P8, 0, none⟩), .pointer (some ⟨L + 1 + 1, 0, none⟩), .pointer (some ⟨L + 1 + 1 + 1, 0, none⟩), .pointer (some ⟨L + 1 + 1 + 1 + 1, 0, none⟩)], .bool true, x27, x28, x29, x30, x31, x32, x33, x34, x35, x36, x37, .bool false, .bool true, .bool false, undef, undef, .bool false, .slice none 0 0, .int .i64 0, .bool false, undef, undef, undef, undef, undef, undef, undef, undef, undef, undef, undef, undef, undef, undef, undef, undef, undef, undef, undef, undef], []⟩ ∧ (D' 9 = false → Later V W') ∧ (D' 0 = true → x27 = .pointer (some ⟨B + 1 + 1 + 1, 0, none⟩)) ∧ (D' 1 = true → x28 = ev) ∧ (D' 2 = true → x29 = .int .i64 nn) ∧ (D' 3 = true → x30 = .pointer (some ⟨L + 1, 0, none⟩)) ∧ (D' 4 = true → x31 = .pointer (some ⟨L + 1, 0, none⟩)) ∧ (D' 5 = true → x32 = .pointer (some ⟨L + 1, 1, none⟩)) ∧ (D' 6 = true → x33 = .agg #[.int .i64 r.deed, .int .i64 r.ht, .int .u32 r.hg, .int .u8 r.hr, .string ⟨r.key.toArray⟩, .string ⟨r.val.toArray⟩, .string ⟨r.old.toArray⟩, .int .i64 r.lim, .int .i64 r.ten, .int .u64 r.qk, .int .u64 r.qb, .int .u8 r.rts]) ∧ (D' 7 = true → x34 = .agg #[.int .i64 nn, .int .i64 r.deed, .int .i64 r.ht, .int .u32 r.hg, .int .u8 r.hr, .string ⟨r.key.toArray⟩, .string ⟨r.val.toArray⟩, .string ⟨r.old.toArray⟩, .int .i64 r.lim, .int .i64 r.ten, .int .u64 r.qk, .int .u64 r.qb, .int .u8 r.rts]) ∧
      (D' 8 = true → D' 9 = false → ∃ Z, x35 = .slice (some ⟨Z, 0, none⟩) 1 1 ∧ W'.heap[Z]? = some (.cells #[.int .i64 nn, .int .i64 r.deed, .int .i64 r.ht, .int .u32 r.hg, .int .u8 r.hr, .string ⟨r.key.toArray⟩, .string ⟨r.val.toArray⟩, .string ⟨r.old.toArray⟩, .int .i64 r.lim, .int .i64 r.ten, .int .u64 r.qk, .int .u64 r.qb, .int .u8 r.rts] 59 (0, 0))) ∧
      (D' 9 = true → ∃ a3 n3 c3, x36 = .slice a3 n3 c3 ∧ (D' 11 = false → (∃ V8, Later V V8 ∧ V8.grownBy W' ev.ownBlock) ∧ W'.ownsRow w1.heap.size 59 13 x36 (st.1.length + 1) (entC st.1 ++ (.int .i64 nn :: (reqA r).toList)))) ∧
      (D' 10 = true → x37 = .pointer (some ⟨B + 1 + 1 + 1, 0, none⟩)) ∧ (D' 11 = true → PMid w w1.heap.size pre.length (st.1 ++ [(nn, r)], st.2) W W')) (by kernel_rfl) ?_ ?_ ?_
     ·exact ⟨undef, undef, undef, undef, undef, undef, undef, undef, undef, undef, undef, rfl, (fun _ => (Later.refl V).drew), (fun h => by cases h), (fun h => by cases h), (fun h => by cases h), (fun h => by cases h), (fun h => by cases h), (fun h => by cases h), (fun h => by cases h), (fun h => by cases h), (fun h => by cases h), (fun h => by cases h), (fun h => by cases h), (fun h => by cases h)⟩
     ·intro i D' a' W' hi hDi hdep hcl hI
      obtain ⟨x27, x28, x29, x30, x31, x32, x33, x34, x35, x36, x37, rfl, hW, f0, f1, f2, f3, f4, f5, f6, f7, f8, f9, f10, f11⟩ := hI
      have hi' : i = 0 ∨ i = 1 ∨ i = 2 ∨ i = 3 ∨ i = 4 ∨ i = 5 ∨ i = 6 ∨ i = 7 ∨ i = 8 ∨ i = 9 ∨ i = 10 ∨ i = 11 := by
       have : i < 12 := hi
       omega
      rcases hi' with rfl | rfl | rfl | rfl | rfl | rfl | rfl | rfl | rfl | rfl | rfl | rfl
      ·skip
       refine wpOp_step rfl (fun K' hK' => ?_)
       rw [if_pos (by rfl)]
       go_simp
       exact hK' _ _ ⟨_, x28, x29, x30, x31, x32, x33, x34, x35, x36, x37, rfl, hW, (fun _ => rfl), f1, f2, f3, f4, f5, f6, f7, f8, f9, f10, f11⟩
      ·skip
       have h9 : D' 9 = false := by
        cases h : D' 9 with
        | false => rfl
        | true =>
         have b1 := hcl 9 (by decide) h 1 (by kernel_rfl)
         rw [hDi] at b1; cases b1
       have q0 := f0 (hdep 0 (by kernel_rfl))
       subst q0
       have hc := cell_at (hW h9) HCS.out.1 (by have := HSZ.out; have := HB.out; have := HBG0.out; show B + 1 + 1 + 1 < _; omega)
       refine wpOp_step rfl (fun K' hK' => ?_)
       rw [if_pos (by rfl)]
       go_simp
       exact hK' _ _ ⟨_, _, x29, x30, x31, x32, x33, x34, x35, x36, x37, rfl, hW, (fun _ => rfl), (fun _ => rfl), f2, f3, f4, f5, f6, f7, f8, f9, f10, f11⟩
      ·skip
       have h9 : D' 9 = false := by
        cases h : D' 9 with
        | false => rfl
        | true =>
         have b8 := hcl 9 (by decide) h 8 (by kernel_rfl)
         have b7 := hcl 8 (by decide) b8 7 (by kernel_rfl)
         have b2 := hcl 7 (by decide) b7 2 (by kernel_rfl)
         rw [hDi] at b2; cases b2
       have hc := cell_at (hW h9) HCS.out.2.2.1 (by have := HCS.out.2.2.2.2; show L + 4 < _; omega)
       have hc : W'.cell? ⟨L + 1 + 1 + 1 + 1, 0, none⟩ = some (.int .i64 nn) := hc
       refine wpOp_step rfl (fun K' hK' => ?_)
       rw [if_pos (by rfl)]
       go_simp
       exact hK' _ _ ⟨x27, x28, _, x30, x31, x32, x33, x34, x35, x36, x37, rfl, hW, f0, f1, (fun _ => rfl), f3, f4, f5, f6, f7, f8, f9, f10, f11⟩
      ·skip
       have h9 : D' 9 = false := by
        cases h : D' 9 with
        | false => rfl
        | true =>
         have b8 := hcl 9 (by decide) h 8 (by kernel_rfl)
         have b7 := hcl 8 (by decide) b8 7 (by kernel_rfl)
         have b6 := hcl 7 (by decide) b7 6 (by kernel_rfl)
         have b5 := hcl 6 (by decide) b6 5 (by kernel_rfl)
         have b4 := hcl 5 (by decide) b5 4 (by kernel_rfl)
         have b3 := hcl 4 (by decide) b4 3 (by kernel_rfl)
         rw [hDi] at b3; cases b3
       have hc := cell_at (hW h9) HCS.out.2.1 (by have := HCS.out.2.2.2.2; show L + 2 < _; omega)
       have hc : W'.cell? ⟨L + 1 + 1, 0, none⟩ = some (.pointer (some ⟨L + 1, 0, none⟩)) := hc
       refine wpOp_step rfl (fun K' hK' => ?_)
       rw [if_pos (by rfl)]
       go_simp
       exact hK' _ _ ⟨x27, x28, x29, _, x31, x32, x33, x34, x35, x36, x37, rfl, hW, f0, f1, f2, (fun _ => rfl), f4, f5, f6, f7, f8, f9, f10, f11⟩
      ·have q3 := f3 (hdep 3 (by kernel_rfl))
       subst q3
       refine wpOp_step rfl (fun K' hK' => ?_)
       rw [if_pos (by rfl)]
       go_simp
       exact hK' _ _ ⟨x27, x28, x29, _, _, x32, x33, x34, x35, x36, x37, rfl, hW, f0, f1, f2, (fun _ => rfl), (fun _ => rfl), f5, f6, f7, f8, f9, f10, f11⟩
      ·have q4 := f4 (hdep 4 (by kernel_rfl))
       subst q4
       refine wpOp_step rfl (fun K' hK' => ?_)
       rw [if_pos (by rfl)]
       go_simp
       exact hK' _ _ ⟨x27, x28, x29, x30, _, _, x33, x34, x35, x36, x37, rfl, hW, f0, f1, f2, f3, (fun _ => rfl), (fun _ => rfl), f6, f7, f8, f9, f10, f11⟩
      ·have q5 := f5 (hdep 5 (by kernel_rfl))
       subst q5
       have h9 : D' 9 = false := by
        cases h : D' 9 with
        | false => rfl
        | true =>
         have b8 := hcl 9 (by decide) h 8 (by kernel_rfl)
         have b7 := hcl 8 (by decide) b8 7 (by kernel_rfl)
         have b6 := hcl 7 (by decide) b7 6 (by kernel_rfl)
         rw [hDi] at b6; cases b6
       refine wpOp_step rfl (fun K' hK' => ?_)
       rw [if_pos (by rfl)]
       refine wp_load_mid 39 (.tmp 32) rfl (L + 1) 1 rfl (reqA r).toList _ (fun j u hj => cell_at (hW h9) (HCS.out.2.2.2.1 j u hj) (by have := HCS.out.2.2.2.2; show L + 1 < _; omega)) Tryz.underlying39 rfl (by kernel_rfl) ?_
       exact hK' _ _ ⟨x27, x28, x29, x30, x31, _, _, x34, x35, x36, x37, rfl, hW, f0, f1, f2, f3, f4, (fun _ => rfl), (fun _ => rfl), f7, f8, f9, f10, f11⟩
      ·have q2 := f2 (hdep 2 (by kernel_rfl))
       have q6 := f6 (hdep 6 (by kernel_rfl))
       subst q2
       subst q6
       refine wpOp_step rfl (fun K' hK' => ?_)
       rw [if_pos (by rfl)]
       go_simp
       exact hK' _ _ ⟨x27, x28, _, x30, x31, x32, _, _, x35, x36, x37, rfl, hW, f0, f1, (fun _ => rfl), f3, f4, f5, (fun _ => rfl), (fun _ => rfl), f8, f9, f10, f11⟩
      ·have q7 := f7 (hdep 7 (by kernel_rfl))
       subst q7
       have h9 : D' 9 = false := by
        cases h : D' 9 with
        | false => rfl
        | true =>
         have b8 := hcl 9 (by decide) h 8 (by kernel_rfl)
         rw [hDi] at b8; cases b8
       have h11 : D' 11 = false := by
        cases h : D' 11 with
        | false => rfl
        | true => have b9 := hcl 11 (by decide) h 9 (by kernel_rfl); rw [h9] at b9; cases b9
       refine wpOp_step rfl (fun K' hK' => ?_)
       rw [if_pos (by rfl)]
       go_simp
       exact hK' _ _ ⟨x27, x28, x29, x30, x31, x32, x33, _, _, x36, x37, rfl, (fun _ => (hW h9).alloc _), f0, f1, f2, f3, f4, f5, f6, (fun _ => rfl), (fun _ _ => ⟨W'.heap.size, rfl, (MapKept.heap_alloc W' _).1⟩), (fun h => absurd (show D' 9 = true from h) (by rw [h9]; decide)), f10, (fun h => absurd (show D' 11 = true from h) (by rw [h11]; decide))⟩
      ·have q1 := f1 (hdep 1 (by kernel_rfl))
       obtain ⟨Z, q8, hZ⟩ := f8 (hdep 8 (by kernel_rfl)) hDi
       subst q1
       subst q8
       have hl := hW hDi
       have h11 := hcl.no hDi (k := 11) (by decide) (by kernel_rfl)
       obtain ⟨i0, hi0, hz0, hz1, hz2⟩ := HI59.out
       refine wpOp_step rfl (fun K' hK' => ?_)
       rw [if_pos (by rfl)]
       refine wp_append_own _ (.tmp 28) (.tmp 35) 42 rfl w1.heap.size 59 i0 _ 13 120 Tryz.underlying42 hi0 hz0 hz1 hz2 rfl (by decide) x28 st.1.length (entC st.1) rfl (ownsRow_later HEV.out hl) ⟨Z, 0, none⟩ 1 1 (.int .i64 nn :: (reqA r).toList) rfl rfl ?_ ?_ ?_ ?_ ?_ ?_
       ·intro j u hu
        rw [addr_add0, Lib.cell_of_heap hZ]
        rw [← Array.getElem?_toList]
        exact hu
       ·intro u hu
        revert u
        simp [reqA, strV, Value.oneCell']
       ·have := HBS.out; unfold maxLen; omega
       ·have := HBS.out; omega
       ·have := HBG0.out; have := hl.size; omega
       ·intro s3 W8 hown8 hgrow _
        obtain ⟨a3, n3, c3, rfl⟩ : ∃ a3 n3 c3, s3 = .slice a3 n3 c3 := by
         rcases hown8.2 with ⟨rfl, _⟩ | ⟨g9, cap9, cur9, rfl, _⟩
         ·exact ⟨_, _, _, rfl⟩
         ·exact ⟨_, _, _, rfl⟩
        exact hK' _ _ ⟨x27, _, x29, x30, x31, x32, x33, x34, _, _, x37, rfl, (fun h => (updD_self h).elim), f0, (fun _ => rfl), f2, f3, f4, f5, f6, f7, (fun _ h => (updD_self h).elim), (fun _ => ⟨a3, n3, c3, rfl, fun _ => ⟨⟨W', hl, hgrow⟩, hown8⟩⟩), f10, (fun h => absurd (show D' 11 = true from h) (by rw [h11]; decide))⟩
      ·skip
       refine wpOp_step rfl (fun K' hK' => ?_)
       rw [if_pos (by rfl)]
       go_simp
       exact hK' _ _ ⟨x27, x28, x29, x30, x31, x32, x33, x34, x35, x36, _, rfl, hW, f0, f1, f2, f3, f4, f5, f6, f7, f8, f9, (fun _ => rfl), f11⟩
      ·have q10 := f10 (hdep 10 (by kernel_rfl))
       have h9 := hdep 9 (by kernel_rfl)
       obtain ⟨a3, n3, c3, q9, h9b⟩ := f9 h9
       subst q10
       subst q9
       obtain ⟨⟨V8, hl8, hg8⟩, hown8⟩ := h9b hDi
       have hm8 := HM.out.after HSZ.out hl8
       have hS8 := (hl8.block (w.heap.size + 3) (by have := HSZ.out; have := HBG0.out; omega)).trans HS.out
       have hev8 := ownsRow_later HEV.out hl8
       have hpv8 := ownsRow_later HPV.out hl8
       obtain ⟨k1, k2, k3, k4⟩ := hm8.grow (base := w1.heap.size) HSZ.out hev8 hg8
       have hS9 := (k3 (w.heap.size + 3) (by have := HSZ.out; omega)).trans hS8
       have t1 : W'.cell? ⟨w.heap.size + 3, 0, none⟩ = some ev := by rw [Lib.cell_of_heap hS9]; rfl
       have z1 : W'.frozen? ⟨w.heap.size + 3, 0, none⟩ = false := Lib.frozen_of_heap hS9 0
       have hn := hm8.entry HSZ.out (e := (nn, r)) hS8 hev8 hpv8 hown8 hg8
       rw [HB.out] at t1 z1 hn
       have HNN := Lib.hid hn
       have HFF := Lib.hid (And.intro f0 (And.intro f1 (And.intro f2 (And.intro f3 (And.intro f4 (And.intro f5 (And.intro f6 f7)))))))
       clear f0 f1 f2 f3 f4 f5 f6 f7 f8 f9 f10 f11 hl8 hg8 hown8 h9b hm8 hS8 hev8 hpv8 k1 k2 k3 k4 hS9 hn hW
       refine wpOp_step rfl (fun K' hK' => ?_)
       rw [if_pos (by rfl)]
       go_simp
       exact hK' _ _ ⟨x27, x28, x29, x30, x31, x32, x33, x34, x35, _, _, rfl, (fun h => absurd (show D' 9 = false from h) (by rw [h9]; decide)), HFF.out.1, HFF.out.2.1, HFF.out.2.2.1, HFF.out.2.2.2.1, HFF.out.2.2.2.2.1, HFF.out.2.2.2.2.2.1, HFF.out.2.2.2.2.2.2.1, HFF.out.2.2.2.2.2.2.2, (fun _ h => absurd (show D' 9 = false from h) (by rw [h9]; decide)), (fun _ => ⟨a3, n3, c3, rfl, fun h => (updD_self h).elim⟩), (fun _ => rfl), (fun _ => HNN.out)⟩
     ·rintro D' a' W' hD' ⟨x27, x28, x29, x30, x31, x32, x33, x34, x35, x36, x37, rfl, -, -, -, -, -, -, -, -, -, -, f9, -, f11⟩
      obtain ⟨a3, n3, c3, rfl, -⟩ := f9 (hD' 9 (by decide))
      have hn := f11 (hD' 11 (by decide))
      obtain ⟨st', hst'⟩ : ∃ st' : Scr, st' = (st.1 ++ [(nn, r)], st.2) := ⟨_, rfl⟩
      have HAD := Lib.hid (show addP st (.inr (nn, r)) = st' from hst'.symm)
      obtain ⟨V7, hV7⟩ : ∃ V7, W' = V7 := ⟨_, rfl⟩
      have HN := Lib.hid (show PMid w w1.heap.size pre.length st' W V7 by rw [hst', ← hV7]; exact hn)
      rw [hV7]
      clear f9 f11 hn hst' hV7
      show K5 _ _
      refine hK5 _ _ ?_
      have hN := HN.out
      obtain ⟨ev9, pv9, hS9, hev9, hpv9⟩ := hN.st
      obtain ⟨a1, cp1, rfl⟩ : ∃ a1 cp1, ev9 = .slice a1 st'.1.length cp1 := by
       rcases hev9.2 with ⟨rfl, h0⟩ | ⟨g9, cap9, cur9, rfl, _⟩
       ·exact ⟨none, 0, by rw [h0]⟩
       ·exact ⟨_, _, rfl⟩
      obtain ⟨a2, cp2, rfl⟩ : ∃ a2 cp2, pv9 = .slice a2 st'.2.length cp2 := by
       rcases hpv9.2 with ⟨rfl, h0⟩ | ⟨g9, cap9, cur9, rfl, _⟩
       ·exact ⟨none, 0, by rw [h0]⟩
       ·exact ⟨_, _, rfl⟩
      obtain ⟨n1, hn1⟩ : ∃ n1, st'.1.length = n1 := ⟨_, rfl⟩
      obtain ⟨n2, hn2⟩ : ∃ n2, st'.2.length = n2 := ⟨_, rfl⟩
      rw [hn1, hn2] at hS9
      have s0 : V7.cell? ⟨w.heap.size + 3, 0, none⟩ = some (.slice a1 n1 cp1) := by rw [Lib.cell_of_heap hS9]; rfl
      have s1 : V7.cell? ⟨w.heap.size + 3, 1, none⟩ = some (.slice a2 n2 cp2) := by rw [Lib.cell_of_heap hS9]; rfl
      have s4 := one_cell hN.nb
      have g4 := Lib.frozen_of_heap hN.nb 0
      rw [HB.out] at s0 s1 s4 g4
      have hbig : bigP st' = (decide (4096 < n1) || decide (65536 < n2)) := by unfold bigP; rw [hn1, hn2]
      have HBIG := Lib.hid hbig
      clear hN hS9 hev9 hpv9 hn1 hn2 hbig
      refine wpIn_seq_k fun K8 hK8 => ?_
      refine wpIn_seq_k fun K9 hK9 => ?_
      by_cases hb1 : 4096 < n1
      ·have hd1 : decide ((4096 : Int) < (n1 : Int)) = true := by simp; omega
       have hd2 : (4096 : Int) < (n1 : Int) := by omega
       have HBG := Lib.hid (show bigP st' = true by rw [HBIG.out]; simp [hb1])
       have HERR := Lib.hid (show runP (lns l) ([], []) 0 = .error (pre.length, 3) by
        rw [HX.out]
        refine runP_stop HST.out ?_
        unfold stP
        rw [HY.out]
        simp only
        rw [HAD.out, if_pos HBG.out])
       have HE := Lib.hid (HN.out.ew 3)
       refine wpIn_reg (by simp [noDefer]) (fun ⟨a, w, h⟩ => hout ⟨a, w, h⟩) ?_
       go_wp2_with fail
       refine wpIn_cond_true rfl ?_
       refine wpIn_seq_k fun K10 hK10 => ?_
       refine wpIn_reg_iv rfl (by simp [noDefer]) (fun ⟨a, w, h⟩ => hout ⟨a, w, h⟩) (fun D' a' W' => ∃ xa xb, a' = ⟨#[.string T, undef, .pointer (some ⟨B, 0, none⟩), .pointer (some ⟨B + 1, 0, none⟩), .pointer (some ⟨B + 1 + 1, 0, none⟩), .pointer (some ⟨B + 1 + 1 + 1, 0, none⟩), .pointer (some ⟨B + 1 + 1 + 1 + 1, 0, none⟩), .string S, .pointer (some ⟨P8, 0, none⟩), .pointer (some ⟨L + 1 + 1, 0, none⟩), .pointer (some ⟨L + 1 + 1 + 1, 0, none⟩), .pointer (some ⟨L + 1 + 1 + 1 + 1, 0, none⟩), .bool true, .string T, .int .i64 k, .bool false, undef, .string T, .func (.func 80) #[] #[.pointer (some ⟨B + 1 + 1 + 1 + 1 + 1, 0, none⟩)], .string S, .bool x.2, .string S, .slice (some ⟨L, 0, none⟩) m m, rdV L m, .pointer (some ⟨L + 1, 0, none⟩), .func (.func 43) #[] #[.pointer (some ⟨P8, 0, none⟩), .pointer (some ⟨L + 1 + 1, 0, none⟩), .pointer (some ⟨L + 1 + 1 + 1, 0, none⟩), .pointer (some ⟨L + 1 + 1 + 1 + 1, 0, none⟩)], .bool true, x27, x28, x29, x30, x31, x32, x33, x34, x35, .slice a3 n3 c3, x37, .bool false, .bool true, .bool false, undef, undef, .bool false, .slice none 0 0, .int .i64 0, .bool false, undef, undef, undef, undef, undef, .pointer (some ⟨B + 1 + 1 + 1, 0, none⟩), .slice a1 n1 cp1, .int .i64 (n1 : Int), .bool true, .bool true, undef, undef, undef, undef, .bool true, xa, xb, undef, undef, undef], []⟩ ∧ EW w w1.heap.size pre.length 3 W (D' 3) (D' 4) W' ∧ (D' 0 = true → xa = .agg #[.slice none 0 0, .slice none 0 0]) ∧ (D' 1 = true → xb = .int .i64 (pre.length : Int))) (by kernel_rfl) ?_ ?_ ?_
       ·exact ⟨undef, undef, rfl, HE.out.drew, (fun h => by cases h), (fun h => by cases h)⟩
       ·intro i D' a' W' hi hDi hdep hcl hI
        obtain ⟨xa, xb, rfl, hE, f0, f1⟩ := hI
        have hi' : i = 0 ∨ i = 1 ∨ i = 2 ∨ i = 3 ∨ i = 4 := by
         have : i < 5 := hi
         omega
        have e0 := hE.r0
        have e1 := one_cell hE.r1
        have e2 := one_cell hE.r2
        have e4 := one_cell hE.nb
        have g1 := Lib.frozen_of_heap hE.r1 0
        have g2 := Lib.frozen_of_heap hE.r2 0
        have HEE := Lib.hid hE
        rw [HB.out] at e0 e1 e2 e4 g1 g2
        clear hE
        rcases hi' with rfl | rfl | rfl | rfl | rfl
        ·refine wpOp_step rfl (fun K' hK' => ?_)
         rw [if_pos (by rfl)]
         go_simp
         exact hK' _ _ ⟨_, xb, rfl, HEE.out, (fun _ => rfl), f1⟩
        ·refine wpOp_step rfl (fun K' hK' => ?_)
         rw [if_pos (by rfl)]
         go_simp
         exact hK' _ _ ⟨xa, _, rfl, HEE.out, f0, (fun _ => rfl)⟩
        ·have q0 := f0 (hdep 0 (by kernel_rfl))
         subst q0
         refine wpOp_step rfl (fun K' hK' => ?_)
         rw [if_pos (by rfl)]
         refine wp_store_row 45 (.tmp 2) (.tmp 62) rfl B #[.slice none 0 0, .slice none 0 0] rfl rfl 45 #[.slice none 0 0, .slice none 0 0] e0 (by kernel_rfl) rfl (by simp [Value.oneCell']) ?_
         have hrow := HEE.out.row
         rw [HB.out] at hrow
         exact hK' _ _ ⟨_, xb, rfl, hrow, (fun _ => rfl), f1⟩
        ·have q1 := f1 (hdep 1 (by kernel_rfl))
         subst q1
         have HS := Lib.hid (show EW w w1.heap.size pre.length 3 W true (D' 4) (W'.setCell ⟨B + 1, 0, none⟩ (.int .i64 (pre.length : Int))) by
          have h3 := HEE.out
          rw [hDi] at h3
          have := h3.set1 (by have := HSZ.out; omega) _ rfl
          rwa [HB.out] at this)
         have HF0 := Lib.hid f0
         clear f0 f1
         refine wpOp_step rfl (fun K' hK' => ?_)
         rw [if_pos (by rfl)]
         go_simp
         exact hK' _ _ ⟨xa, _, rfl, HS.out, HF0.out, (fun _ => rfl)⟩
        ·have HS := Lib.hid (show EW w w1.heap.size pre.length 3 W (D' 3) true (W'.setCell ⟨B + 1 + 1, 0, none⟩ (.int .i64 3)) by
          have h3 := HEE.out
          rw [hDi] at h3
          have := h3.set2 (by have := HSZ.out; omega)
          rwa [HB.out] at this)
         have HF0 := Lib.hid (And.intro f0 f1)
         clear f0 f1
         refine wpOp_step rfl (fun K' hK' => ?_)
         rw [if_pos (by rfl)]
         go_simp
         exact hK' _ _ ⟨xa, xb, rfl, HS.out, HF0.out.1, HF0.out.2⟩
       ·rintro D' a' W' hD' ⟨xa, xb, rfl, hE, -, -⟩
        have d3 := hD' 3 (by decide)
        have d4 := hD' 4 (by decide)
        rw [d3, d4] at hE
        refine hK10 _ _ (wpIn_ret ?_)
        show Q0 .ret _ _
        rw [← hQ0]
        exact ⟨hE.kf, pre.length, _, HERR.out, hE.later, hE.big, hE.r0, hE.r1, hE.r2⟩
      ·have hd1 : decide ((4096 : Int) < (n1 : Int)) = false := by simp; omega
       have hd1' : ¬ (4096 : Int) < (n1 : Int) := by omega
       by_cases hb2 : 65536 < n2
       ·have hd2 : decide ((65536 : Int) < (n2 : Int)) = true := by simp; omega
        have hd3 : (65536 : Int) < (n2 : Int) := by omega
        have HBG := Lib.hid (show bigP st' = true by rw [HBIG.out]; simp [hb2])
        have HERR := Lib.hid (show runP (lns l) ([], []) 0 = .error (pre.length, 3) by
         rw [HX.out]
         refine runP_stop HST.out ?_
         unfold stP
         rw [HY.out]
         simp only
         rw [HAD.out, if_pos HBG.out])
        have HE := Lib.hid (HN.out.ew 3)
        refine wpIn_reg (by simp [noDefer]) (fun ⟨a, w, h⟩ => hout ⟨a, w, h⟩) ?_
        go_wp2_with fail
        refine wpIn_cond_true rfl ?_
        refine wpIn_seq_k fun K10 hK10 => ?_
        refine wpIn_reg_iv rfl (by simp [noDefer]) (fun ⟨a, w, h⟩ => hout ⟨a, w, h⟩) (fun D' a' W' => ∃ xa xb, a' = ⟨#[.string T, undef, .pointer (some ⟨B, 0, none⟩), .pointer (some ⟨B + 1, 0, none⟩), .pointer (some ⟨B + 1 + 1, 0, none⟩), .pointer (some ⟨B + 1 + 1 + 1, 0, none⟩), .pointer (some ⟨B + 1 + 1 + 1 + 1, 0, none⟩), .string S, .pointer (some ⟨P8, 0, none⟩), .pointer (some ⟨L + 1 + 1, 0, none⟩), .pointer (some ⟨L + 1 + 1 + 1, 0, none⟩), .pointer (some ⟨L + 1 + 1 + 1 + 1, 0, none⟩), .bool true, .string T, .int .i64 k, .bool false, undef, .string T, .func (.func 80) #[] #[.pointer (some ⟨B + 1 + 1 + 1 + 1 + 1, 0, none⟩)], .string S, .bool x.2, .string S, .slice (some ⟨L, 0, none⟩) m m, rdV L m, .pointer (some ⟨L + 1, 0, none⟩), .func (.func 43) #[] #[.pointer (some ⟨P8, 0, none⟩), .pointer (some ⟨L + 1 + 1, 0, none⟩), .pointer (some ⟨L + 1 + 1 + 1, 0, none⟩), .pointer (some ⟨L + 1 + 1 + 1 + 1, 0, none⟩)], .bool true, x27, x28, x29, x30, x31, x32, x33, x34, x35, .slice a3 n3 c3, x37, .bool false, .bool true, .bool false, undef, undef, .bool false, .slice none 0 0, .int .i64 0, .bool false, undef, undef, undef, undef, undef, .pointer (some ⟨B + 1 + 1 + 1, 0, none⟩), .slice a1 n1 cp1, .int .i64 (n1 : Int), .bool false, .bool false, .pointer (some ⟨B + 1 + 1 + 1, 1, none⟩), .slice a2 n2 cp2, .int .i64 (n2 : Int), .bool true, .bool true, xa, xb, undef, undef, undef], []⟩ ∧ EW w w1.heap.size pre.length 3 W (D' 3) (D' 4) W' ∧ (D' 0 = true → xa = .agg #[.slice none 0 0, .slice none 0 0]) ∧ (D' 1 = true → xb = .int .i64 (pre.length : Int))) (by kernel_rfl) ?_ ?_ ?_
        ·exact ⟨undef, undef, rfl, HE.out.drew, (fun h => by cases h), (fun h => by cases h)⟩
        ·intro i D' a' W' hi hDi hdep hcl hI
         obtain ⟨xa, xb, rfl, hE, f0, f1⟩ := hI
         have hi' : i = 0 ∨ i = 1 ∨ i = 2 ∨ i = 3 ∨ i = 4 := by
          have : i < 5 := hi
          omega
         have e0 := hE.r0
         have e1 := one_cell hE.r1
         have e2 := one_cell hE.r2
         have e4 := one_cell hE.nb
         have g1 := Lib.frozen_of_heap hE.r1 0
         have g2 := Lib.frozen_of_heap hE.r2 0
         have HEE := Lib.hid hE
         rw [HB.out] at e0 e1 e2 e4 g1 g2
         clear hE
         rcases hi' with rfl | rfl | rfl | rfl | rfl
         ·refine wpOp_step rfl (fun K' hK' => ?_)
          rw [if_pos (by rfl)]
          go_simp
          exact hK' _ _ ⟨_, xb, rfl, HEE.out, (fun _ => rfl), f1⟩
         ·refine wpOp_step rfl (fun K' hK' => ?_)
          rw [if_pos (by rfl)]
          go_simp
          exact hK' _ _ ⟨xa, _, rfl, HEE.out, f0, (fun _ => rfl)⟩
         ·have q0 := f0 (hdep 0 (by kernel_rfl))
          subst q0
          refine wpOp_step rfl (fun K' hK' => ?_)
          rw [if_pos (by rfl)]
          refine wp_store_row 45 (.tmp 2) (.tmp 62) rfl B #[.slice none 0 0, .slice none 0 0] rfl rfl 45 #[.slice none 0 0, .slice none 0 0] e0 (by kernel_rfl) rfl (by simp [Value.oneCell']) ?_
          have hrow := HEE.out.row
          rw [HB.out] at hrow
          exact hK' _ _ ⟨_, xb, rfl, hrow, (fun _ => rfl), f1⟩
         ·have q1 := f1 (hdep 1 (by kernel_rfl))
          subst q1
          have HS := Lib.hid (show EW w w1.heap.size pre.length 3 W true (D' 4) (W'.setCell ⟨B + 1, 0, none⟩ (.int .i64 (pre.length : Int))) by
           have h3 := HEE.out
           rw [hDi] at h3
           have := h3.set1 (by have := HSZ.out; omega) _ rfl
           rwa [HB.out] at this)
          have HF0 := Lib.hid f0
          clear f0 f1
          refine wpOp_step rfl (fun K' hK' => ?_)
          rw [if_pos (by rfl)]
          go_simp
          exact hK' _ _ ⟨xa, _, rfl, HS.out, HF0.out, (fun _ => rfl)⟩
         ·have HS := Lib.hid (show EW w w1.heap.size pre.length 3 W (D' 3) true (W'.setCell ⟨B + 1 + 1, 0, none⟩ (.int .i64 3)) by
           have h3 := HEE.out
           rw [hDi] at h3
           have := h3.set2 (by have := HSZ.out; omega)
           rwa [HB.out] at this)
          have HF0 := Lib.hid (And.intro f0 f1)
          clear f0 f1
          refine wpOp_step rfl (fun K' hK' => ?_)
          rw [if_pos (by rfl)]
          go_simp
          exact hK' _ _ ⟨xa, xb, rfl, HS.out, HF0.out.1, HF0.out.2⟩
        ·rintro D' a' W' hD' ⟨xa, xb, rfl, hE, -, -⟩
         have d3 := hD' 3 (by decide)
         have d4 := hD' 4 (by decide)
         rw [d3, d4] at hE
         refine hK10 _ _ (wpIn_ret ?_)
         show Q0 .ret _ _
         rw [← hQ0]
         exact ⟨hE.kf, pre.length, _, HERR.out, hE.later, hE.big, hE.r0, hE.r1, hE.r2⟩
       ·have hd2 : decide ((65536 : Int) < (n2 : Int)) = false := by simp; omega
        have hd2' : ¬ (65536 : Int) < (n2 : Int) := by omega
        have HBG := Lib.hid (show bigP st' = false by rw [HBIG.out]; simp [hb1, hb2])
        have HRUN := Lib.hid (show runP (pre ++ [x]) ([], []) 0 = .ok st' by
         refine runP_next (suf := []) HST.out ?_
         unfold stP
         rw [HY.out]
         simp only
         rw [HAD.out, HBG.out]
         rfl)
        have hm1 : IntKind.i64.wrap ((pre.length : Int) + 1) = (pre.length : Int) + 1 := IntWalk.i64_in _ (by have := HPL.out; omega)
        have HFIN := Lib.hid (HN.out.count (by have := HSZ.out; omega) ((pre.length : Int) + 1) (by simp) (pre ++ [x]) (by simp) HRUN.out)
        have hp1 : (pre.length : Int) ≤ 262145 := by have := HPL.out; omega
        refine wpIn_reg (by simp [noDefer]) (fun ⟨a, w, h⟩ => hout ⟨a, w, h⟩) ?_
        go_wp2_with fail
        refine wpIn_cond_false rfl ?_
        refine wpIn_skip (hK8 _ _ ?_)
        refine wpIn_reg (by simp [noDefer]) (fun ⟨a, w, h⟩ => hout ⟨a, w, h⟩) ?_
        go_wp2_with fail
        show Q0 .normal _ _
        rw [← hQ0]
        have hfin := HFIN.out
        rw [HB.out] at hfin
        exact ⟨hfin.2.1, ⟨World.cell?_of_block (a := ⟨B + 5, 0, none⟩) hfin.2.2, World.frozen?_of_block (a := ⟨B + 5, 0, none⟩) hfin.2.2⟩, hfin.1⟩
  ·have hlate : Later W (w6.setCell ⟨W4.heap.size, 0, none⟩ (.bool false)) := by
    have h1 := HL4.out.1
    have h2 := HL4.out.2
    refine (hex.later (h1.alloc _) (fun b hb => ?_)).setCell _ _ (by show W.heap.size ≤ W4.heap.size; omega)
    simp at hb; omega
   obtain ⟨V, hV⟩ : ∃ V, w6.setCell ⟨W4.heap.size, 0, none⟩ (.bool false) = V := ⟨_, rfl⟩
   rw [hV] at hlate ⊢
   have HE := Lib.hid ((HMID.out.after HSZ.out hlate).ew 7)
   have HERR := Lib.hid (show runP (lns l) ([], []) 0 = .error (pre.length, 7) by
    rw [HX.out]
    refine runP_stop HST.out ?_
    unfold stP
    rw [hln])
   clear hlate hV hln hex HT4 hmf
   go_wp2_with fail
   refine wpIn_seq_k fun K5 hK5 => ?_
   refine wpIn_block ?_
   refine wpIn_seq_k fun K6 hK6 => ?_
   refine wpIn_reg (by simp [noDefer]) (fun ⟨a, w, h⟩ => hout ⟨a, w, h⟩) ?_
   go_wp2_with fail
   refine wpIn_cond_true rfl ?_
   refine wpIn_seq_k fun K7 hK7 => ?_
   refine wpIn_reg_iv rfl (by simp [noDefer]) (fun ⟨a, w, h⟩ => hout ⟨a, w, h⟩) (fun D' a' W' => ∃ xa xb, a' = ⟨#[.string T, undef, .pointer (some ⟨B, 0, none⟩), .pointer (some ⟨B + 1, 0, none⟩), .pointer (some ⟨B + 1 + 1, 0, none⟩), .pointer (some ⟨B + 1 + 1 + 1, 0, none⟩), .pointer (some ⟨B + 1 + 1 + 1 + 1, 0, none⟩), .string S, .pointer (some ⟨P8, 0, none⟩), .pointer (some ⟨L + 1 + 1, 0, none⟩), .pointer (some ⟨L + 1 + 1 + 1, 0, none⟩), .pointer (some ⟨L + 1 + 1 + 1 + 1, 0, none⟩), .bool false, .string T, .int .i64 k, .bool false, undef, .string T, .func (.func 80) #[] #[.pointer (some ⟨B + 1 + 1 + 1 + 1 + 1, 0, none⟩)], .string S, .bool x.2, .string S, .slice (some ⟨L, 0, none⟩) m m, rdV L m, .pointer (some ⟨L + 1, 0, none⟩), .func (.func 43) #[] #[.pointer (some ⟨P8, 0, none⟩), .pointer (some ⟨L + 1 + 1, 0, none⟩), .pointer (some ⟨L + 1 + 1 + 1, 0, none⟩), .pointer (some ⟨L + 1 + 1 + 1 + 1, 0, none⟩)], .bool false, undef, undef, undef, undef, undef, undef, undef, undef, undef, undef, undef, .bool true, .bool false, .bool true, xa, xb, undef, undef, undef, undef, undef, undef, undef, undef, undef, undef, undef, undef, undef, undef, undef, undef, undef, undef, undef, undef, undef, undef, undef, undef], []⟩ ∧ EW w w1.heap.size pre.length 7 W (D' 3) (D' 4) W' ∧ (D' 0 = true → xa = .agg #[.slice none 0 0, .slice none 0 0]) ∧ (D' 1 = true → xb = .int .i64 (pre.length : Int))) (by kernel_rfl) ?_ ?_ ?_
   ·exact ⟨undef, undef, rfl, HE.out.drew, (fun h => by cases h), (fun h => by cases h)⟩
   ·intro i D' a' W' hi hDi hdep hcl hI
    obtain ⟨xa, xb, rfl, hE, f0, f1⟩ := hI
    have hi' : i = 0 ∨ i = 1 ∨ i = 2 ∨ i = 3 ∨ i = 4 := by
     have : i < 5 := hi
     omega
    have e0 := hE.r0
    have e1 := one_cell hE.r1
    have e2 := one_cell hE.r2
    have e4 := one_cell hE.nb
    have g1 := Lib.frozen_of_heap hE.r1 0
    have g2 := Lib.frozen_of_heap hE.r2 0
    have HEE := Lib.hid hE
    rw [HB.out] at e0 e1 e2 e4 g1 g2
    clear hE
    rcases hi' with rfl | rfl | rfl | rfl | rfl
    ·refine wpOp_step rfl (fun K' hK' => ?_)
     rw [if_pos (by rfl)]
     go_simp
     exact hK' _ _ ⟨_, xb, rfl, HEE.out, (fun _ => rfl), f1⟩
    ·refine wpOp_step rfl (fun K' hK' => ?_)
     rw [if_pos (by rfl)]
     go_simp
     exact hK' _ _ ⟨xa, _, rfl, HEE.out, f0, (fun _ => rfl)⟩
    ·have q0 := f0 (hdep 0 (by kernel_rfl))
     subst q0
     refine wpOp_step rfl (fun K' hK' => ?_)
     rw [if_pos (by rfl)]
     refine wp_store_row 45 (.tmp 2) (.tmp 41) rfl B #[.slice none 0 0, .slice none 0 0] rfl rfl 45 #[.slice none 0 0, .slice none 0 0] e0 (by kernel_rfl) rfl (by simp [Value.oneCell']) ?_
     have hrow := HEE.out.row
     rw [HB.out] at hrow
     exact hK' _ _ ⟨_, xb, rfl, hrow, (fun _ => rfl), f1⟩
    ·have q1 := f1 (hdep 1 (by kernel_rfl))
     subst q1
     have HS := Lib.hid (show EW w w1.heap.size pre.length 7 W true (D' 4) (W'.setCell ⟨B + 1, 0, none⟩ (.int .i64 (pre.length : Int))) by
      have h3 := HEE.out
      rw [hDi] at h3
      have := h3.set1 (by have := HSZ.out; omega) _ rfl
      rwa [HB.out] at this)
     have HF0 := Lib.hid f0
     clear f0 f1
     refine wpOp_step rfl (fun K' hK' => ?_)
     rw [if_pos (by rfl)]
     go_simp
     exact hK' _ _ ⟨xa, _, rfl, HS.out, HF0.out, (fun _ => rfl)⟩
    ·have HS := Lib.hid (show EW w w1.heap.size pre.length 7 W (D' 3) true (W'.setCell ⟨B + 1 + 1, 0, none⟩ (.int .i64 7)) by
      have h3 := HEE.out
      rw [hDi] at h3
      have := h3.set2 (by have := HSZ.out; omega)
      rwa [HB.out] at this)
     have HF0 := Lib.hid (And.intro f0 f1)
     clear f0 f1
     refine wpOp_step rfl (fun K' hK' => ?_)
     rw [if_pos (by rfl)]
     go_simp
     exact hK' _ _ ⟨xa, xb, rfl, HS.out, HF0.out.1, HF0.out.2⟩
   ·rintro D' a' W' hD' ⟨xa, xb, rfl, hE, -, -⟩
    have d3 := hD' 3 (by decide)
    have d4 := hD' 4 (by decide)
    rw [d3, d4] at hE
    refine hK7 _ _ (wpIn_ret ?_)
    show Q0 .ret _ _
    rw [← hQ0]
    exact ⟨hE.kf, pre.length, _, HERR.out, hE.later, hE.big, hE.r0, hE.r1, hE.r2⟩
end Go.Proofs.YtkbedajbbakihaaGreatDoor
