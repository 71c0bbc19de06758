/-
 Texts of this proof, put together (Fo, Rt, Ty, Rr): each part's first words say what it holds. Conditions: as each part says.
-/
import Derived.Test.YtkbedajbbakihaaGreatDoorQc1
import Derived.Maps.RangeRun
import Derived.Laws.EntriesVeiled
import Derived.Outline
import Derived.Defers
import Derived.Recover
import Derived.Laws.Pointers
import Derived.Deep.MidRow
import Derived.Great.BuildSlice
/-
 The table of forms, walked. Conditions: none.
-/
namespace Go.Proofs.YtkbedajbbakihaaGreatDoor
open Go.RowKit
open Go.ChangeMaps (setBlock)
set_option linter.unusedSimpArgs false
set_option linter.unusedVariables false

/-- the entries of the table: the map in block M, its slices behind it, the four functions from block N on -/
def ents (M N : Nat) : List MapEntry := [
 ⟨.int .i64 1, .agg #[.string ⟨#[103, 101, 116]⟩, .slice (some ⟨M + 1, 0, none⟩) 2 2, .func (.func 98) #[] #[.pointer (some ⟨N + 1, 0, none⟩), .pointer (some ⟨N, 0, none⟩)]], 0⟩,
 ⟨.int .i64 2, .agg #[.string ⟨#[112, 117, 116]⟩, .slice (some ⟨M + 2, 0, none⟩) 3 3, .func (.func 100) #[] #[.pointer (some ⟨N + 1, 0, none⟩), .pointer (some ⟨N, 0, none⟩)]], 1⟩,
 ⟨.int .i64 3, .agg #[.string ⟨#[100, 101, 108, 101, 116, 101]⟩, .slice (some ⟨M + 3, 0, none⟩) 2 2, .func (.func 101) #[] #[.pointer (some ⟨N + 1, 0, none⟩), .pointer (some ⟨N, 0, none⟩)]], 2⟩,
 ⟨.int .i64 4, .agg #[.string ⟨#[115, 119, 97, 112]⟩, .slice (some ⟨M + 4, 0, none⟩) 4 4, .func (.func 103) #[] #[.pointer (some ⟨N + 1, 0, none⟩), .pointer (some ⟨N, 0, none⟩)]], 3⟩,
 ⟨.int .i64 5, .agg #[.string ⟨#[115, 99, 97, 110]⟩, .slice (some ⟨M + 5, 0, none⟩) 3 3, .func (.func 105) #[] #[.pointer (some ⟨N + 1, 0, none⟩), .pointer (some ⟨N, 0, none⟩)]], 4⟩,
 ⟨.int .i64 6, .agg #[.string ⟨#[116, 101, 108, 108]⟩, .slice (some ⟨M + 6, 0, none⟩) 1 1, .func (.func 106) #[] #[.pointer (some ⟨N + 1, 0, none⟩)]], 5⟩,
 ⟨.int .i64 7, .agg #[.string ⟨#[99, 114, 101, 97, 116, 101]⟩, .slice (some ⟨M + 7, 0, none⟩) 3 3, .func (.func 110) #[] #[.pointer (some ⟨N + 1 + 1, 0, none⟩)]], 6⟩,
 ⟨.int .i64 8, .agg #[.string ⟨#[114, 101, 109, 111, 118, 101]⟩, .slice (some ⟨M + 8, 0, none⟩) 1 1, .func (.func 112) #[] #[.pointer (some ⟨N + 1 + 1, 0, none⟩)]], 7⟩,
 ⟨.int .i64 9, .agg #[.string ⟨#[105, 115, 115, 117, 101]⟩, .slice (some ⟨M + 9, 0, none⟩) 2 2, .func (.func 114) #[] #[.pointer (some ⟨N + 1 + 1, 0, none⟩), .pointer (some ⟨N + 1 + 1 + 1, 0, none⟩)]], 8⟩,
 ⟨.int .i64 10, .agg #[.string ⟨#[114, 101, 118, 111, 107, 101]⟩, .slice (some ⟨M + 10, 0, none⟩) 1 1, .func (.func 115) #[] #[.pointer (some ⟨N + 1 + 1, 0, none⟩)]], 9⟩]
/-- the functions that take the fields of a deed (from 0 on) -/
def fnCells (j : Nat) : Array Value := match j with
 | 0 => #[.func (.func 96) #[] #[], .func (.func 97) #[] #[]]
 | 1 => #[.func (.func 96) #[] #[], .func (.func 97) #[] #[], .func (.func 99) #[] #[]]
 | 2 => #[.func (.func 96) #[] #[], .func (.func 97) #[] #[]]
 | 3 => #[.func (.func 96) #[] #[], .func (.func 97) #[] #[], .func (.func 102) #[] #[], .func (.func 99) #[] #[]]
 | 4 => #[.func (.func 96) #[] #[], .func (.func 97) #[] #[], .func (.func 104) #[] #[]]
 | 5 => #[.func (.func 96) #[] #[]]
 | 6 => #[.func (.func 107) #[] #[], .func (.func 108) #[] #[], .func (.func 109) #[] #[]]
 | 7 => #[.func (.func 107) #[] #[]]
 | 8 => #[.func (.func 107) #[] #[], .func (.func 113) #[] #[]]
 | 9 => #[.func (.func 107) #[] #[]]
 | _ => #[]
theorem run_put (W : World) (M : Nat) (es : Array MapEntry) (clk : Nat) (k : Int) (v : Value) (hb : W.heap[M]? = some (.map es clk)) (hn : Instr.findNow (.int .i64) (.int .i64 k) es.toList 0 = some none) :
  (Instr.mapUpdate 118 (.map (some M)) (.int .i64 k) v).run Tryz.prog W = .ok () (setBlock W M (.map (es.push { key := .int .i64 k, val := v, born := clk }) (clk + 1))) := by
 unfold Instr.mapUpdate
 simp only [Sem.run_bind, run_underlying Tryz.underlying118, Result.andThen, MapKept.run_getObj_map hb, MapKept.run_checkKey Tryz.underlying30 (show MapKept.IsKey (.int .i64) (.int .i64 k) by simp [MapKept.IsKey]), MapKept.run_findKey Tryz.underlying30 hn, MapKept.run_setObj_map _ hb]
 rfl
/-- the table with its first d forms -/
structure FoSt (w : World) (M N d : Nat) (W : World) : Prop where
 later : Later w W
 size : W.heap.size = M + 1 + d
 base : w.heap.size = N ∧ N + 4 = M
 map : W.heap[M]? = some (.map ((ents M N).take d).toArray d)
 rows : ∀ j, j < d → W.heap[M + (j + 1)]? = some (.cells (fnCells j) 133 (0, 0))
 key : W.heap[N]? = some (.cells #[.func (.func 92) #[] #[]] 151 (0, 0))
 held : W.heap[N + 1]? = some (.cells #[.func (.func 93) #[] #[]] 151 (0, 0))
 ten : W.heap[N + 2]? = some (.cells #[.func (.func 94) #[] #[]] 151 (0, 0))
 rts : W.heap[N + 3]? = some (.cells #[.func (.func 95) #[] #[]] 151 (0, 0))
theorem setBlock_other (W : World) (M : Nat) (o : Obj) (k : Nat) (hk : k ≠ M) : (setBlock W M o).heap[k]? = W.heap[k]? := by
 unfold setBlock
 rw [Array.getElem?_setIfInBounds_ne (fun h => hk h.symm)]
theorem heap_alloc_lt (W : World) (o : Obj) (k : Nat) (hk : k < W.heap.size) : (W.alloc o).heap[k]? = W.heap[k]? := ((Later.refl W).alloc o).block k hk
theorem FoSt.put {w : World} {M N d : Nat} {W : World} (h : FoSt w M N d W) (hd : d < 10) (e : MapEntry) (he : (ents M N)[d]? = some e) (W' : World) (hW : W' = setBlock (W.alloc (.cells (fnCells d) 133)) M (.map (((ents M N).take d).toArray.push e) (d + 1))) : FoSt w M N (d + 1) W' := by
 obtain ⟨h1, h2, h3, h4, h5, h6, h7, h8, h9⟩ := h
 have hb : ∀ k, k < W.heap.size → k ≠ M → W'.heap[k]? = W.heap[k]? := fun k hk hkM => by
  rw [hW, setBlock_other _ _ _ _ hkM, heap_alloc_lt _ _ _ hk]
 have hs : W'.heap.size = W.heap.size + 1 := by rw [hW]; simp [setBlock]
 refine ⟨⟨?_, ?_, ?_, ?_, ?_⟩, by omega, h3, ?_, ?_, ?_, ?_, ?_, ?_⟩
 ·rw [hW]; exact h1.os
 ·rw [hW]; exact h1.tape
 ·rw [hW]; exact h1.output
 ·have := h1.size; omega
 ·intro k hk
  rw [hb k (Nat.lt_of_lt_of_le hk h1.size) (by omega)]
  exact h1.block k hk
 ·rw [hW]
  unfold setBlock
  rw [Array.getElem?_setIfInBounds_self_of_lt (by simp; omega), List.take_add_one, he]
  simp
 ·intro j hj
  by_cases hjd : j = d
  ·subst hjd
   rw [hW, setBlock_other _ _ _ _ (by omega), show M + (j + 1) = W.heap.size by omega]
   exact (MapKept.heap_alloc W _).1
  ·rw [hb _ (by omega) (by omega)]
   exact h5 j (by omega)
 ·rw [hb _ (by omega) (by omega)]; exact h6
 ·rw [hb _ (by omega) (by omega)]; exact h7
 ·rw [hb _ (by omega) (by omega)]; exact h8
 ·rw [hb _ (by omega) (by omega)]; exact h9
theorem FoSt.start (w : World) (N M : Nat) (hN : w.heap.size = N) (hM : N + 4 = M) : FoSt w M N 0 (((((w.alloc (.cells #[.func (.func 92) #[] #[]] 151)).alloc (.cells #[.func (.func 93) #[] #[]] 151)).alloc (.cells #[.func (.func 94) #[] #[]] 151)).alloc (.cells #[.func (.func 95) #[] #[]] 151)).alloc (.map #[] 0)) := by
 subst hN hM
 have e : ∀ (W : World) (o : Obj), (W.alloc o).heap[W.heap.size]? = some o := fun W o => (MapKept.heap_alloc W o).1
 refine ⟨by repeat (first | exact Later.refl _ | assumption | apply Later.alloc | apply Later.drew | apply Later.drewN | refine Later.trans ?_ (by assumption)), by simp, ⟨rfl, rfl⟩, ?_, (fun j hj => by omega), ?_, ?_, ?_, ?_⟩
 ·have := e ((((w.alloc (.cells #[.func (.func 92) #[] #[]] 151)).alloc (.cells #[.func (.func 93) #[] #[]] 151)).alloc (.cells #[.func (.func 94) #[] #[]] 151)).alloc (.cells #[.func (.func 95) #[] #[]] 151)) (.map #[] 0)
  simpa using this
 ·rw [heap_alloc_lt _ _ _ (by simp; omega), heap_alloc_lt _ _ _ (by simp; omega), heap_alloc_lt _ _ _ (by simp; omega), heap_alloc_lt _ _ _ (by simp)]
  exact e _ _
 ·rw [heap_alloc_lt _ _ _ (by simp), heap_alloc_lt _ _ _ (by simp), heap_alloc_lt _ _ _ (by simp)]
  have := e (w.alloc (.cells #[.func (.func 92) #[] #[]] 151)) (.cells #[.func (.func 93) #[] #[]] 151)
  simpa using this
 ·rw [heap_alloc_lt _ _ _ (by simp), heap_alloc_lt _ _ _ (by simp)]
  have := e ((w.alloc (.cells #[.func (.func 92) #[] #[]] 151)).alloc (.cells #[.func (.func 93) #[] #[]] 151)) (.cells #[.func (.func 94) #[] #[]] 151)
  simpa using this
 ·rw [heap_alloc_lt _ _ _ (by simp)]
  have := e (((w.alloc (.cells #[.func (.func 92) #[] #[]] 151)).alloc (.cells #[.func (.func 93) #[] #[]] 151)).alloc (.cells #[.func (.func 94) #[] #[]] 151)) (.cells #[.func (.func 95) #[] #[]] 151)
  simpa using this

set_option maxRecDepth 100000 in
set_option maxHeartbeats 1000000 in
theorem forms_is (w : World) : Calls Tryz.prog 59 #[] w fun e w' => e = .returned (.map (some (w.heap.size + 4))) ∧ FoSt w (w.heap.size + 4) w.heap.size 10 w' := by
 obtain ⟨N, hN⟩ : ∃ N, w.heap.size = N := ⟨_, rfl⟩
 obtain ⟨M, hM⟩ : ∃ M, N + 4 = M := ⟨_, rfl⟩
 have HS := Lib.hid (FoSt.start w N M hN hM)
 have HM := Lib.hid (show N + 1 + 1 + 1 + 1 = M by omega)
 have HNM := Lib.hid (And.intro hN hM)
 rw [hN, hM]
 have hmm := @run_makeMap Tryz.prog
 have hmf : ∀ (fn : Fn) (first cap : Array Value) (w : World), (Instr.makeFunc fn first cap).run Tryz.prog w = .ok (.func fn first cap) w := fun _ _ _ _ => rfl
 have HNN := Lib.hid hN
 clear hN hM
 go_enter Tryz.func59, Tryz.ntmps59
 go_wp2_with fail
 rw [HNN.out, HM.out]
 obtain ⟨W0, hW0⟩ : ∃ W0, ((((w.alloc (.cells #[.func (.func 92) #[] #[]] 151)).alloc (.cells #[.func (.func 93) #[] #[]] 151)).alloc (.cells #[.func (.func 94) #[] #[]] 151)).alloc (.cells #[.func (.func 95) #[] #[]] 151)).alloc (.map #[] 0) = W0 := ⟨_, rfl⟩
 rw [hW0] at HS
 rw [hW0]
 clear hW0
 rw [run_put (W0.alloc _) M ((ents M N).take 0).toArray 0 1 _ (by rw [heap_alloc_lt _ _ _ (by have := HS.out.size; omega)]; exact HS.out.map) (by rfl)]
 simp only [Result.andThen]
 rw [Oper.upon_skip]
 generalize hW1 : setBlock _ M _ = W1
 have HS := Lib.hid (HS.out.put (by omega) _ (by rfl) W1 hW1.symm)
 clear hW1
 have hsz1 : W1.heap.size = M + 2 := HS.out.size
 go_wp2_with fail
 clear hsz1
 rw [run_put (W1.alloc _) M ((ents M N).take 1).toArray 1 2 _ (by rw [heap_alloc_lt _ _ _ (by have := HS.out.size; omega)]; exact HS.out.map) (by rfl)]
 simp only [Result.andThen]
 rw [Oper.upon_skip]
 generalize hW2 : setBlock _ M _ = W2
 have HS := Lib.hid (HS.out.put (by omega) _ (by rfl) W2 hW2.symm)
 clear hW2
 have hsz2 : W2.heap.size = M + 3 := HS.out.size
 go_wp2_with fail
 clear hsz2
 rw [run_put (W2.alloc _) M ((ents M N).take 2).toArray 2 3 _ (by rw [heap_alloc_lt _ _ _ (by have := HS.out.size; omega)]; exact HS.out.map) (by rfl)]
 simp only [Result.andThen]
 rw [Oper.upon_skip]
 generalize hW3 : setBlock _ M _ = W3
 have HS := Lib.hid (HS.out.put (by omega) _ (by rfl) W3 hW3.symm)
 clear hW3
 have hsz3 : W3.heap.size = M + 4 := HS.out.size
 go_wp2_with fail
 clear hsz3
 rw [run_put (W3.alloc _) M ((ents M N).take 3).toArray 3 4 _ (by rw [heap_alloc_lt _ _ _ (by have := HS.out.size; omega)]; exact HS.out.map) (by rfl)]
 simp only [Result.andThen]
 rw [Oper.upon_skip]
 generalize hW4 : setBlock _ M _ = W4
 have HS := Lib.hid (HS.out.put (by omega) _ (by rfl) W4 hW4.symm)
 clear hW4
 have hsz4 : W4.heap.size = M + 5 := HS.out.size
 go_wp2_with fail
 clear hsz4
 rw [run_put (W4.alloc _) M ((ents M N).take 4).toArray 4 5 _ (by rw [heap_alloc_lt _ _ _ (by have := HS.out.size; omega)]; exact HS.out.map) (by rfl)]
 simp only [Result.andThen]
 rw [Oper.upon_skip]
 generalize hW5 : setBlock _ M _ = W5
 have HS := Lib.hid (HS.out.put (by omega) _ (by rfl) W5 hW5.symm)
 clear hW5
 have hsz5 : W5.heap.size = M + 6 := HS.out.size
 go_wp2_with fail
 clear hsz5
 rw [run_put (W5.alloc _) M ((ents M N).take 5).toArray 5 6 _ (by rw [heap_alloc_lt _ _ _ (by have := HS.out.size; omega)]; exact HS.out.map) (by rfl)]
 simp only [Result.andThen]
 rw [Oper.upon_skip]
 generalize hW6 : setBlock _ M _ = W6
 have HS := Lib.hid (HS.out.put (by omega) _ (by rfl) W6 hW6.symm)
 clear hW6
 have hsz6 : W6.heap.size = M + 7 := HS.out.size
 go_wp2_with fail
 clear hsz6
 rw [run_put (W6.alloc _) M ((ents M N).take 6).toArray 6 7 _ (by rw [heap_alloc_lt _ _ _ (by have := HS.out.size; omega)]; exact HS.out.map) (by rfl)]
 simp only [Result.andThen]
 rw [Oper.upon_skip]
 generalize hW7 : setBlock _ M _ = W7
 have HS := Lib.hid (HS.out.put (by omega) _ (by rfl) W7 hW7.symm)
 clear hW7
 have hsz7 : W7.heap.size = M + 8 := HS.out.size
 go_wp2_with fail
 clear hsz7
 rw [run_put (W7.alloc _) M ((ents M N).take 7).toArray 7 8 _ (by rw [heap_alloc_lt _ _ _ (by have := HS.out.size; omega)]; exact HS.out.map) (by rfl)]
 simp only [Result.andThen]
 rw [Oper.upon_skip]
 generalize hW8 : setBlock _ M _ = W8
 have HS := Lib.hid (HS.out.put (by omega) _ (by rfl) W8 hW8.symm)
 clear hW8
 have hsz8 : W8.heap.size = M + 9 := HS.out.size
 go_wp2_with fail
 clear hsz8
 rw [run_put (W8.alloc _) M ((ents M N).take 8).toArray 8 9 _ (by rw [heap_alloc_lt _ _ _ (by have := HS.out.size; omega)]; exact HS.out.map) (by rfl)]
 simp only [Result.andThen]
 rw [Oper.upon_skip]
 generalize hW9 : setBlock _ M _ = W9
 have HS := Lib.hid (HS.out.put (by omega) _ (by rfl) W9 hW9.symm)
 clear hW9
 have hsz9 : W9.heap.size = M + 10 := HS.out.size
 go_wp2_with fail
 clear hsz9
 rw [run_put (W9.alloc _) M ((ents M N).take 9).toArray 9 10 _ (by rw [heap_alloc_lt _ _ _ (by have := HS.out.size; omega)]; exact HS.out.map) (by rfl)]
 simp only [Result.andThen]
 rw [Oper.upon_skip]
 generalize hW10 : setBlock _ M _ = W10
 have HS := Lib.hid (HS.out.put (by omega) _ (by rfl) W10 hW10.symm)
 clear hW10
 have hsz10 : W10.heap.size = M + 11 := HS.out.size
 go_wp2_with fail
 go_ret
 exact ⟨rfl, HS.out⟩
end Go.Proofs.YtkbedajbbakihaaGreatDoor

/-
 The reader's request, walked. Conditions: the reader is one of the call's own.
-/
namespace Go.Proofs.YtkbedajbbakihaaGreatDoor
open Go.RowKit
open Go.ChangeMaps (setBlock)
set_option linter.unusedSimpArgs false
set_option linter.unusedVariables false

/-- the table, as it lies in a world -/
structure FB (M N : Nat) (W : World) : Prop where
 map : W.heap[M]? = some (.map (ents M N).toArray 10)
 rows : ∀ j, j < 10 → W.heap[M + (j + 1)]? = some (.cells (fnCells j) 133 (0, 0))
 key : W.heap[N]? = some (.cells #[.func (.func 92) #[] #[]] 151 (0, 0))
 held : W.heap[N + 1]? = some (.cells #[.func (.func 93) #[] #[]] 151 (0, 0))
 ten : W.heap[N + 2]? = some (.cells #[.func (.func 94) #[] #[]] 151 (0, 0))
 rts : W.heap[N + 3]? = some (.cells #[.func (.func 95) #[] #[]] 151 (0, 0))
theorem FoSt.fb {w : World} {M N : Nat} {W : World} (h : FoSt w M N 10 W) : FB M N W := ⟨h.map, h.rows, h.key, h.held, h.ten, h.rts⟩
theorem FB.below {M N E : Nat} {W W' : World} (h : FB M N W) (hl : Below E W W') (hM : N + 4 = M) (hE : M + 11 ≤ E) : FB M N W' :=
 ⟨(hl.block M (by omega)).trans h.map, fun j hj => (hl.block (M + (j + 1)) (by omega)).trans (h.rows j hj), (hl.block N (by omega)).trans h.key, (hl.block (N + 1) (by omega)).trans h.held, (hl.block (N + 2) (by omega)).trans h.ten, (hl.block (N + 3) (by omega)).trans h.rts⟩
def entN (j : Nat) (M N : Nat) (e : MapEntry) : Prop := ∃ g caps, e.key = .int .i64 ((j + 1 : Nat) : Int) ∧ e.val = .agg #[strV (nameN (j + 1)), .slice (some ⟨M + (j + 1), 0, none⟩) (fldsN (j + 1)).length (fldsN (j + 1)).length, .func g #[] caps] ∧ e.born = j
theorem ents_at (M N : Nat) (e : MapEntry) (he : e ∈ ents M N) : ∃ j, j < 10 ∧ entN j M N e := by
 simp only [ents, List.mem_cons, List.not_mem_nil, or_false] at he
 rcases he with rfl | rfl | rfl | rfl | rfl | rfl | rfl | rfl | rfl | rfl
 ·exact ⟨0, by omega, _, _, rfl, rfl, rfl⟩
 ·exact ⟨1, by omega, _, _, rfl, rfl, rfl⟩
 ·exact ⟨2, by omega, _, _, rfl, rfl, rfl⟩
 ·exact ⟨3, by omega, _, _, rfl, rfl, rfl⟩
 ·exact ⟨4, by omega, _, _, rfl, rfl, rfl⟩
 ·exact ⟨5, by omega, _, _, rfl, rfl, rfl⟩
 ·exact ⟨6, by omega, _, _, rfl, rfl, rfl⟩
 ·exact ⟨7, by omega, _, _, rfl, rfl, rfl⟩
 ·exact ⟨8, by omega, _, _, rfl, rfl, rfl⟩
 ·exact ⟨9, by omega, _, _, rfl, rfl, rfl⟩
theorem ents_born (M N : Nat) : (ents M N).map (·.born) = List.range 10 := rfl
theorem ents_mem (M N : Nat) (j : Nat) (hj : j < 10) : ∃ e ∈ ents M N, e.born = j := by
 have : j ∈ (ents M N).map (·.born) := by rw [ents_born]; exact List.mem_range.2 hj
 obtain ⟨e, h1, h2⟩ := List.mem_map.1 this
 exact ⟨e, h1, h2⟩
theorem fnCells_at (j : Nat) (hj : j < 10) (i : Nat) (hi : i < (fldsN (j + 1)).length) : (fnCells j)[i]? = some (.func (.func (fnF ((fldsN (j + 1))[i]))) #[] #[]) := by
 have hj' : j = 0 ∨ j = 1 ∨ j = 2 ∨ j = 3 ∨ j = 4 ∨ j = 5 ∨ j = 6 ∨ j = 7 ∨ j = 8 ∨ j = 9 := by omega
 rcases hj' with rfl | rfl | rfl | rfl | rfl | rfl | rfl | rfl | rfl | rfl
 all_goals
  simp only [fldsN, List.length_cons, List.length_nil] at hi
  have hi' : i = 0 ∨ i = 1 ∨ i = 2 ∨ i = 3 := by omega
  rcases hi' with rfl | rfl | rfl | rfl <;> first | rfl | omega
theorem setBlock_below (W : World) (I : Nat) (o : Obj) : Below I W (setBlock W I o) :=
 ⟨rfl, rfl, rfl, by simp [setBlock], fun k hk => setBlock_other W I o k (by omega)⟩
theorem setBlock_self (W : World) (I : Nat) (o : Obj) (hI : I < W.heap.size) : (setBlock W I o).heap[I]? = some o := by
 unfold setBlock
 rw [Array.getElem?_setIfInBounds_self_of_lt hI]
/-- what the loop over the table keeps: the iterator in block I, none of the forms met has the word -/
def RI (M N I : Nat) (word : List UInt8) (W0 wr : World) : Prop :=
 Below I W0 wr ∧ I < wr.heap.size ∧ ∃ seen : Array Nat, wr.heap[I]? = some (.mapIter (some M) 10 seen 10) ∧ ∀ j, j < 10 → seen.contains j = true → nameN (j + 1) ≠ word
def itLeft (M N I : Nat) (w : World) : Nat := (leftOf (ents M N).toArray (w.iterSeen I)).size
theorem iterSeen_at {w : World} {I : Nat} {m : Option Nat} {s c : Nat} {seen : Array Nat} (h : w.heap[I]? = some (.mapIter m s seen c)) : w.iterSeen I = seen := by
 unfold World.iterSeen
 rw [h]
/-- one step of the iterator -/
theorem RI.next {M N I : Nat} {word : List UInt8} {W0 wr : World} (h : RI M N I word W0 wr) (hM : N + 4 = M) (hI : M + 11 ≤ I) (hF : FB M N W0) :
  ((∀ j, j < 10 → nameN (j + 1) ≠ word) ∧ (Instr.next (.pointer (some ⟨I, 0, none⟩)) false 0).run Tryz.prog wr = .ok (.tuple #[.bool false]) wr) ∨
  ∃ j e W', j < 10 ∧ entN j M N e ∧ (Instr.next (.pointer (some ⟨I, 0, none⟩)) false 0).run Tryz.prog wr = .ok (.tuple #[.bool true, e.key, e.val]) W' ∧
   (Instr.entry (.pointer (some ⟨I, 0, none⟩))).run Tryz.prog W' = .ok (.tuple #[e.key, e.val]) W' ∧ Below I W0 W' ∧ I < W'.heap.size ∧
   itLeft M N I W' < itLeft M N I wr ∧ (nameN (j + 1) ≠ word → RI M N I word W0 W') := by
 obtain ⟨h1, h2, seen, h3, h4⟩ := h
 have hFr := hF.below h1 hM (by omega)
 have hborn : ∀ x ∈ (ents M N).toArray.toList, x.born < 10 := fun x hx => by
  have : x.born ∈ (ents M N).map (·.born) := List.mem_map.2 ⟨x, by simpa using hx, rfl⟩
  rw [ents_born] at this
  exact List.mem_range.1 this
 have hnd : ((ents M N).toArray.toList.map (·.born)).Nodup := by
  rw [show (ents M N).toArray.toList.map (·.born) = List.range 10 by simpa using ents_born M N]
  exact List.nodup_range
 rcases run_next_at (P := Tryz.prog) wr 0 I M 10 10 seen (ents M N).toArray 10 h3 hFr.map hborn (Nat.le_refl _) with ⟨k1, k2⟩ | ⟨e, k1, w1, k2, k3⟩
 ·refine .inl ⟨fun j hj => ?_, k2⟩
  obtain ⟨e, he, hb⟩ := ents_mem M N j hj
  refine h4 j hj ?_
  cases hc : seen.contains j with
  | true => rfl
  | false =>
   exfalso
   have : e ∈ leftOf (ents M N).toArray seen := by
    unfold leftOf
    exact Array.mem_filter.2 ⟨by simpa using he, by rw [hb, hc]; rfl⟩
   have h9 : leftOf (ents M N).toArray seen = #[] := Array.eq_empty_of_size_eq_zero k1
   rw [h9] at this
   simp at this
 ·obtain ⟨m1, m2⟩ := mem_left k1
  obtain ⟨j, hj, hent⟩ := ents_at M N e (by simpa using m1)
  have hb : e.born = j := by obtain ⟨g, caps, _, _, hb⟩ := hent; exact hb
  have hw1 : Below I wr w1 := by
   rcases k2 with rfl | rfl
   ·exact Below.refl _ _
   ·exact (Below.refl _ _).drew
  have hs1 : w1.heap.size = wr.heap.size := by rcases k2 with rfl | rfl <;> rfl
  have hself := setBlock_self w1 I (.mapIter (some M) 10 (seen.push e.born) 10) (by omega)
  have hbel := Below.trans (Below.trans h1 hw1) (setBlock_below w1 I (.mapIter (some M) 10 (seen.push e.born) 10))
  have hsz : I < (setBlock w1 I (.mapIter (some M) 10 (seen.push e.born) 10)).heap.size := by simp [setBlock]; omega
  refine .inr ⟨j, e, setBlock w1 I (.mapIter (some M) 10 (seen.push e.born) 10), hj, hent, k3, ?_, hbel, hsz, ?_, fun hn => ⟨hbel, hsz, seen.push e.born, hself, fun i hi hc => ?_⟩⟩
  ·exact run_entry_at _ I M 10 seen (ents M N).toArray 10 e hself (hF.below hbel hM (by omega)).map m1 hnd
  ·unfold itLeft
   rw [iterSeen_at hself, iterSeen_at h3]
   exact left_shrinks _ _ _ k1
  ·rw [contains_push, Bool.or_eq_true] at hc
   rcases hc with hc | hc
   ·exact h4 i hi hc
   ·have : i = e.born := by simpa using hc
    rw [this, hb]
    exact hn
theorem RI.below {M N I : Nat} {word : List UInt8} {W0 wr w' : World} (h : RI M N I word W0 wr) (hl : Later wr w') : RI M N I word W0 w' := by
 obtain ⟨h1, h2, seen, h3, h4⟩ := h
 exact ⟨Below.trans h1 (Below.mono hl (by omega)), Nat.lt_of_lt_of_le h2 hl.size, seen, (hl.block I h2).trans h3, h4⟩
theorem itLeft_later {M N I : Nat} {w w' : World} (hl : Later w w') (hI : I < w.heap.size) : itLeft M N I w' = itLeft M N I w := by
 unfold itLeft World.iterSeen
 rw [hl.block I hI]
theorem deedW_none {word : List UInt8} (h : ∀ j, j < 10 → nameN (j + 1) ≠ word) : deedW word = none := by
 unfold deedW
 rw [List.find?_eq_none]
 intro d hd
 rw [List.mem_range'] at hd
 obtain ⟨i, hi, rfl⟩ := hd
 have := h i hi
 rw [show 1 + 1 * i = i + 1 by omega]
 simpa using this
theorem Only.below {b E : Nat} {w x y : World} (h : Only b w x) (hl : Below E x y) (hE : w.heap.size ≤ E) : Only b w y :=
 ⟨hl.os.trans h.os, hl.tape.trans h.tape, hl.output.trans h.output, Nat.le_trans h.size hl.size, fun k hk hb => (hl.block k (by omega)).trans (h.block k hk hb)⟩
/-- what the loop over a form's fields keeps -/
def QI (b K : Nat) (fl : List Fld) (r1 : Req) (ws : List (List UInt8)) (W4 : World) (k : Nat) (wr : World) : Prop :=
 ∃ rk wsk, RdQ b K rk wsk wr ∧ Only b W4 wr ∧ foldF fl ws r1 = foldF (fl.drop k) wsk rk
theorem fold_step (G : Fld) (fs : List Fld) (ws : List (List UInt8)) (r : Req) : foldF (G :: fs) ws r = (stepW G ws r).bind (foldF fs ws.tail) := by
 cases ws <;> rfl
theorem fold_end (ws : List (List UInt8)) (r : Req) : foldF [] ws r = if ws = [] then some r else none := by
 cases ws <;> rfl
theorem flds_len (j : Nat) : (fldsN (j + 1)).length ≤ 4 := by
 unfold fldsN
 split <;> simp
set_option maxRecDepth 100000 in
theorem enter_fld (F : Fld) (args : Array Value) (W : World) : (callFunc (fnF F) args).run Tryz.prog W = .ok (.enter (fnF F) args) W := by
 cases F <;> rfl
/-- how request ends -/
def QEnd (b K : Nat) (res : Option Req) (w : World) (e : Ending) (w' : World) : Prop :=
 Only b w w' ∧ match res with
  | none => e = wrongE
  | some r => e = .returned (.tuple #[]) ∧ RdQ b K r [] w'
set_option maxRecDepth 100000 in
theorem request_nil (b K : Nat) (w : World) (h : RdQ b K req0 [] w) :
  Calls Tryz.prog 39 #[.pointer (some ⟨b, 0, none⟩)] w (QEnd b K (readR []) w) := by
 obtain ⟨v, hv⟩ := h
 have HN := Lib.hid (next_none b K _ w hv)
 have HE := Lib.hid (show QEnd b K none w wrongE w from ⟨Only.refl _ _, rfl⟩)
 clear hv
 show Calls Tryz.prog 39 #[.pointer (some ⟨b, 0, none⟩)] w (QEnd b K none w)
 go_enter Tryz.func39, Tryz.ntmps39
 go_wp2_with fail
 refine HN.out.mono ?_
 rintro e w1 ⟨rfl, rfl⟩
 unfold wrongE
 go_wp2_with fail
 exact ⟨rfl, HE.out⟩
set_option maxRecDepth 100000 in
set_option maxHeartbeats 2000000 in
theorem request_cons (b K : Nat) (x : List UInt8) (ws : List (List UInt8)) (w : World) (h : RdQ b K req0 (x :: ws) w) :
  Calls Tryz.prog 39 #[.pointer (some ⟨b, 0, none⟩)] w (QEnd b K (readR (x :: ws)) w) := by
 obtain ⟨v, hv⟩ := h
 have HN := Lib.hid (next_some b K _ x ws w hv)
 have HE := Lib.hid (fun w' (hk : Only b w w') => (show QEnd b K none w wrongE w' from ⟨hk, rfl⟩))
 clear hv
 obtain ⟨X, hX⟩ : ∃ X : ByteArray, X = ⟨x.toArray⟩ := ⟨_, rfl⟩
 rw [← hX] at HN
 have HX := Lib.hid hX
 clear hX
 obtain ⟨res, hres⟩ : ∃ res, readR (x :: ws) = res := ⟨_, rfl⟩
 rw [hres]
 have HRES := Lib.hid hres
 clear hres
 go_enter Tryz.func39, Tryz.ntmps39
 go_wp2_with fail
 refine HN.out.mono ?_
 rintro e w1 ⟨rfl, hk, v', hv'⟩
 have HQ1 := Lib.hid (show RdQ b K req0 ws w1 from ⟨v', hv'⟩)
 have HK1 := Lib.hid hk
 have HQ1N := Lib.hid (show RdQ b K req0 ws w1 from ⟨v', hv'⟩)
 clear hk hv'
 go_wp2_with fail
 refine (forms_is w1).mono ?_
 rintro e w2 ⟨rfl, hfs⟩
 obtain ⟨N, hN⟩ : ∃ N, w1.heap.size = N := ⟨_, rfl⟩
 obtain ⟨M, hM⟩ : ∃ M, N + 4 = M := ⟨_, rfl⟩
 obtain ⟨I, hI⟩ : ∃ I, w2.heap.size = I := ⟨_, rfl⟩
 rw [hN, hM] at hfs ⊢
 have hIM : M + 11 ≤ I := by have := hfs.size; omega
 have hrg := run_range_map (P := Tryz.prog) w2 118 30 116 M (ents M N).toArray 10 Tryz.underlying118 hfs.map
 rw [hI] at hrg
 obtain ⟨W0, hW0⟩ : ∃ W0, w2.alloc (.mapIter (some M) 10 #[] 10) = W0 := ⟨_, rfl⟩
 rw [hW0] at hrg
 have hl0 : Later w2 W0 := by rw [← hW0]; exact (Later.refl w2).alloc _
 have HRI0 := Lib.hid (show RI M N I x W0 W0 from ⟨Below.refl _ _, by rw [← hW0]; simp [hI], #[], by rw [← hW0, ← hI]; exact (MapKept.heap_alloc w2 _).1, fun j _ hc => by simp at hc⟩)
 have HFB := Lib.hid (show FB M N W0 from hfs.fb.below (E := I) (Below.mono hl0 (by omega)) hM hIM)
 have HQ0 := Lib.hid (show RdQ b K req0 ws W0 from (HQ1.out.later hfs.later).later hl0)
 have HO0 := Lib.hid (show Only b w W0 from HK1.out.trans (Only.of_later (hfs.later.trans hl0)))
 have HNM := Lib.hid (And.intro hM (And.intro hIM (And.intro hN (show w.heap.size ≤ N by have := HK1.out.size; omega))))
 clear hfs hN hM hI hIM hW0 hl0 HQ1 HK1
 go_wp2_with fail
 clear hrg
 go_loopw [12] (fun _ wr => RI M N I x W0 wr) (fun _ wr => itLeft M N I wr)
 case atStart => exact HRI0.out
 case round =>
  rename World => wk
  have HR := Lib.hid hrel
  clear hrel HRI0
  rcases HR.out.next HNM.out.1 HNM.out.2.1 HFB.out with ⟨hall, hrun⟩ | ⟨j, e, W', hj, ⟨g, caps, hkey, hval, hborn⟩, hrun, hent, hbel, hsz, hlt, hnext⟩
  ·obtain rfl : none = res := by
    rw [← HRES.out, readR, deedW_none hall]; rfl
   have HF := Lib.hid (show QEnd b K none w wrongE wk by
    exact HE.out _ (HO0.out.below HR.out.1 (by have := HNM.out; omega)))
   clear hall
   go_wp2_with fail
   refine (must_false _).mono ?_
   rintro e w4 ⟨rfl, rfl⟩
   go_wp2_with fail
   exact ⟨rfl, HF.out⟩
  ·rw [hkey, hval] at hrun hent
   obtain ⟨D, hD⟩ : ∃ D : Int, ((j + 1 : Nat) : Int) = D := ⟨_, rfl⟩
   obtain ⟨S, hS⟩ : ∃ S : ByteArray, S = ⟨(nameN (j + 1)).toArray⟩ := ⟨_, rfl⟩
   obtain ⟨B, hB⟩ : ∃ B, M + (j + 1) = B := ⟨_, rfl⟩
   obtain ⟨fl, hfl⟩ : ∃ fl, fldsN (j + 1) = fl := ⟨_, rfl⟩
   obtain ⟨n, hn⟩ : ∃ n, fl.length = n := ⟨_, rfl⟩
   unfold strV at hrun hent
   rw [← hS, hD, hB, hfl, hn] at hrun hent
   obtain ⟨F, hF⟩ : ∃ F, W'.heap.size = F := ⟨_, rfl⟩
   obtain ⟨W3, hW3⟩ : ∃ W3, W'.alloc (.cells #[.string S, .slice (some ⟨B, 0, none⟩) n n, .func g #[] caps] 116) = W3 := ⟨_, rfl⟩
   have hl3 : Later W' W3 := by rw [← hW3]; exact (Later.refl W').alloc _
   have hblk : W3.heap[F]? = some (.cells #[.string S, .slice (some ⟨B, 0, none⟩) n n, .func g #[] caps] 116 (0, 0)) := by rw [← hW3, ← hF]; exact (MapKept.heap_alloc W' _).1
   have hFI : I < F := by omega
   have hb3 : Below I W0 W3 := Below.trans hbel (Below.mono hl3 (by omega))
   have HQ3 := Lib.hid (show RdQ b K req0 ws W3 from HQ0.out.below (Below.mono hb3 (by obtain ⟨v9, hv9⟩ := HQ0.out; have h9 := HO0.out.size; have h8 := HNM.out; obtain ⟨v7, hv7⟩ := HQ1N.out; have := hv7.2.1.2; omega)))
   have HO3 := Lib.hid (show Only b w W3 from HO0.out.below hb3 (by have := HNM.out; omega))
   have HB3 := Lib.hid hb3
   have f0 : W3.cell? ⟨F, 0, none⟩ = some (.string S) := by rw [Lib.cell_of_heap hblk]; rfl
   have f1 : W3.cell? ⟨F, 1, none⟩ = some (.slice (some ⟨B, 0, none⟩) n n) := by rw [Lib.cell_of_heap hblk]; rfl
   by_cases hnm : nameN (j + 1) = x
   ·have heq : (S.toList == X.toList) = true := by rw [hS, HX.out, ByteArray.toList_mk, ByteArray.toList_mk]; simpa using hnm
    have HRD := Lib.hid (show readR (x :: ws) = foldF fl ws { req0 with deed := D } by
     rw [readR, ← hnm, deedW_name (j + 1) (by omega), Option.bind_some, hfl, hD])
    have HCE := Lib.hid (show ∀ W : World, Only b W3 W → ∀ i (hi : i < fl.length), W.cell? ⟨B, i, none⟩ = some (.func (.func (fnF fl[i])) #[] #[]) from fun W hW i hi => by
     have h1 : W3.heap[B]? = some (.cells (fnCells j) 133 (0, 0)) := by
      rw [← hB]
      exact (HFB.out.below hb3 HNM.out.1 HNM.out.2.1).rows j hj
     have hBI : B < I := by have := HNM.out.2.1; omega
     have hbB : B ≠ b := by
      obtain ⟨v7, hv7⟩ := HQ1N.out
      have := hv7.1.1
      have := HNM.out
      omega
     refine hW.cell (by have := hl3.size; omega) hbB ?_
     rw [Lib.cell_of_heap h1]
     subst hfl
     exact fnCells_at j hj i hi)
    have HBF := Lib.hid (show F ≠ b by
      obtain ⟨v7, hv7⟩ := HQ1N.out
      have := hv7.1.1
      have := HNM.out
      omega)
    have HF := Lib.hid hF
    have HW3 := Lib.hid hW3
    have HNL := Lib.hid hn
    have hn4 : n ≤ 4 := by rw [← hn, ← hfl]; exact flds_len j
    have HBLK := Lib.hid hblk
    clear hnext hnm hlt hbel hsz hl3 hblk hFI hb3 hS hD hB hfl hn hF hW3 hkey hval hborn hj
    go_upto_region 5 with (fail)
    rw [HW3.out, HF.out]
    obtain ⟨v3, hv3⟩ := HQ3.out
    have c1 := RdQ.cell hv3 1 (.int .i64 0) rfl
    have e1 := RdQ.free hv3 1
    have hbF : ¬ b = F := fun h => HBF.out h.symm
    have h4 := hv3.store 1 (.int .i64 D) (by omega)
    go_upto_region 6 with (fail)
    obtain ⟨W4, hW4⟩ : ∃ W4, W3.setCell ⟨b, 1, none⟩ (.int .i64 D) = W4 := ⟨_, rfl⟩
    rw [hW4] at h4 ⊢
    have f4 : W4.cell? ⟨F, 1, none⟩ = some (.slice (some ⟨B, 0, none⟩) n n) := by
     rw [← hW4]
     exact (World.cell?_setCell_other W3 _ _ _ (by intro h; injection h with h; exact hbF h)).trans f1
    have HQ4 := Lib.hid (show RdQ b K { req0 with deed := D } ws W4 from ⟨v3, h4.1⟩)
    have HO4 := Lib.hid h4.2
    clear hW4 h4 hv3 c1 e1 f0 f1
    go_wp2_with fail
    have HQI0 := Lib.hid (show QI b K fl { req0 with deed := D } ws W4 0 W4 from ⟨_, ws, HQ4.out, Only.refl _ _, by simp⟩)
    clear hrun hent heq f4 hbF
    go_loopw [28] (fun i wr => ∃ k, k ≤ n ∧ i = .int .i64 (k : Int) ∧ QI b K fl { req0 with deed := D } ws W4 k wr) (fun i _ => n - (RowKit.intOf i).toNat)
    case atStart => exact ⟨0, by omega, rfl, HQI0.out⟩
    case round =>
     obtain ⟨k, hk, rfl, rk, wsk, hq, ho, hf⟩ := hrel
     rename World => w5
     clear HQI0
     have HO5 := Lib.hid (HO4.out.trans ho)
     have HO45 := Lib.hid ho
     have HQ5 := Lib.hid hq
     have HFO := Lib.hid hf
     clear hq ho hf
     by_cases hkn : k < n
     ·have hkl : k < fl.length := by rw [HNL.out]; exact hkn
      have hc := HCE.out w5 HO5.out k hkl
      obtain ⟨G, hG⟩ : ∃ G, fl[k] = G := ⟨_, rfl⟩
      rw [hG] at hc
      have HDR := Lib.hid (show fl.drop k = G :: fl.drop (k + 1) by rw [← hG]; exact List.drop_eq_getElem_cons hkl)
      have hen := fun args W => enter_fld G args W
      have HT := Lib.hid (to_is G b K rk wsk w5 HQ5.out)
      obtain ⟨fid, hfid⟩ : ∃ fid, fnF G = fid := ⟨_, rfl⟩
      rw [hfid] at hc hen HT
      clear hG hfid hkl
      go_wp2_with fail
      cases hst : stepW G wsk rk with
      | none =>
       rw [hst] at HT
       obtain rfl : none = res := by rw [← HRES.out, HRD.out, HFO.out, HDR.out, fold_step, hst]; rfl
       clear hst
       refine HT.out.mono ?_
       rintro e w6 ⟨ho6, he⟩
       have HF6 := Lib.hid (HE.out _ ((HO3.out.trans HO5.out).trans ho6))
       cases he
       clear ho6
       unfold wrongE
       go_wp2_with fail
       exact ⟨rfl, HF6.out⟩
      | some r' =>
       rw [hst] at HT
       have HFF := Lib.hid (show foldF fl ws { req0 with deed := D } = foldF (fl.drop (k + 1)) wsk.tail r' by rw [HFO.out, HDR.out, fold_step, hst]; rfl)
       clear hst
       refine HT.out.mono ?_
       rintro e w6 ⟨ho6, he, hq6⟩
       have HQ6 := Lib.hid (show QI b K fl { req0 with deed := D } ws W4 (k + 1) w6 from ⟨r', wsk.tail, hq6, HO45.out.trans ho6, HFF.out⟩)
       cases he
       clear ho6 hq6
       go_wp2_with fail
       go_roundw
       case rel => exact ⟨k + 1, by omega, by go_num, HQ6.out⟩
       case measure => simp [RowKit.intOf]; omega
     ·obtain rfl : k = n := by omega
      obtain ⟨v6, hv6⟩ := HQ5.out
      have HFF := Lib.hid (show res = if wsk = [] then some rk else none by rw [← HRES.out, HRD.out, HFO.out, List.drop_of_length_le (by rw [HNL.out]; exact Nat.le_refl _), fold_end])
      have hw := hv6.2.2.2.2
      obtain ⟨v7, hv7, ⟨wb, off, cap, rfl, _⟩, _⟩ := hw
      have c0 : w5.cell? ⟨b, 0, none⟩ = some (.slice (some ⟨wb, off, none⟩) wsk.length cap) := by rw [Lib.cell_of_heap hv6.2.2.2.1]; exact hv7
      by_cases hwe : wsk = []
      ·obtain rfl : some rk = res := by rw [HFF.out, if_pos hwe]
       have HFN := Lib.hid (show QEnd b K (some rk) w (.returned (.tuple #[])) w5 from ⟨HO3.out.trans HO5.out, rfl, by rw [← hwe]; exact HQ5.out⟩)
       rw [hwe] at c0
       clear hv6 hv7 hwe
       go_wp2_with fail
       refine (must_true _).mono ?_
       rintro e w7 ⟨rfl, rfl⟩
       go_wp2_with fail
       first | go_end0 | refine bodyPost_ret (results_none rfl _ _ _) rfl ?_
       exact HFN.out
      ·obtain rfl : none = res := by rw [HFF.out, if_neg hwe]
       have HFN := Lib.hid (HE.out w5 (HO3.out.trans HO5.out))
       obtain ⟨ln, hln⟩ : ∃ ln, wsk.length = ln := ⟨_, rfl⟩
       have hl0 : 0 < ln := by rw [← hln]; exact List.length_pos_iff.2 hwe
       rw [hln] at c0
       have hd1 : ((ln : Int) == 0) = false := by simp; omega
       have hd2 : (ln == 0) = false := by simp; omega
       clear hv6 hv7 hwe hln
       go_wp2_with fail
       refine (must_false _).mono ?_
       rintro e w7 ⟨rfl, rfl⟩
       go_wp2_with fail
       exact ⟨rfl, HFN.out⟩
   ·have hne : (S.toList == X.toList) = false := by rw [hS, HX.out, ByteArray.toList_mk, ByteArray.toList_mk]; simpa using hnm
    have HRN := Lib.hid ((hnext hnm).below hl3)
    have HLT := Lib.hid (show itLeft M N I W3 < itLeft M N I wk by rw [itLeft_later hl3 hsz]; exact hlt)
    have HF := Lib.hid hF
    have HW3 := Lib.hid hW3
    clear hnext hnm hlt hbel hsz hl3 hblk hFI hb3 hS hD hB hfl hn hF hW3 hkey hval hborn hj
    go_wp2_with fail
    rw [HW3.out]
    go_roundw
    case rel => exact HRN.out
    case measure => exact HLT.out
theorem request_is (b K : Nat) (ws : List (List UInt8)) (w : World) (h : RdQ b K req0 ws w) :
  Calls Tryz.prog 39 #[.pointer (some ⟨b, 0, none⟩)] w (QEnd b K (readR ws) w) := by
 cases ws with
 | nil => exact request_nil b K w h
 | cons x t => exact request_cons b K x t w h
end Go.Proofs.YtkbedajbbakihaaGreatDoor

/-
 try, walked: what is done ends, or panics as words do that do not fit. Conditions: the block of the result keeps its cell.
-/
namespace Go.Proofs.YtkbedajbbakihaaGreatDoor
open Go.RowKit
set_option linter.unusedSimpArgs false
set_option linter.unusedVariables false

set_option maxRecDepth 100000 in
theorem catch_panicking (p : Addr) (x : Bool) (older : List PanicEntry) (w : World) (hc : w.cell? p = some (.bool x)) (hz : w.frozen? p = false) :
  CallsD Tryz.prog 77 #[.pointer (some p)] (.panicking ({ v := .iface 132 (.agg #[]), recovered := false } :: older)) w fun e u' w' =>
   e = .returned (.tuple #[]) ∧ u' = .panicking ({ v := .iface 132 (.agg #[]), recovered := true } :: older) ∧ w' = w.setCell p (.bool false) := by
 refine callsD_of_wpS Tryz.func77 rfl fun c₀ cs hu => ?_
 apply wpS_seq
 apply wpS_region
 simp [wpOpsS, go_sem, recoverD, hu, Tryz.ntmps77, Exit.thenS]
 refine wpS_of_wp ?_
 have ht : (#[Value.pointer (some p)] ++ ((Array.replicate 6 undef).setIfInBounds 1 (Value.iface 132 (Value.agg #[]))).setIfInBounds 0 (Value.iface 132 (Value.agg #[]))) = #[.pointer (some p), .iface 132 (.agg #[]), .iface 132 (.agg #[]), undef, undef, undef, undef] := rfl
 rw [ht]
 have hne : ∀ W : World, (binOp .neq 20 (.iface 132 (.agg #[])) .nilIface).run Tryz.prog W = .ok (.bool true) W := fun W => by kernel_rfl
 have hta : ∀ W : World, (Instr.typeAssert (.iface 132 (.agg #[])) 20 132 false).run Tryz.prog W = .ok (.agg #[]) W := fun W => by kernel_rfl
 go_wp2_with fail
 simp [bodyPostS, results, Tryz.results77]
theorem catch_idle (p : Addr) (w : World) :
  CallsD Tryz.prog 77 #[.pointer (some p)] .returning w fun e u' w' => e = .returned (.tuple #[]) ∧ u' = .returning ∧ w' = w := by
 refine callsD_of_wpS Tryz.func77 rfl fun c₀ cs hu => ?_
 apply wpS_seq
 apply wpS_region
 simp [wpOpsS, go_sem, recoverD, hu, Tryz.ntmps77, Exit.thenS]
 refine wpS_of_wp ?_
 have ht : (#[Value.pointer (some p)] ++ ((Array.replicate 6 undef).setIfInBounds 1 Value.nilIface).setIfInBounds 0 Value.nilIface) = #[.pointer (some p), .nilIface, .nilIface, undef, undef, undef, undef] := rfl
 rw [ht]
 have hne : ∀ W : World, (binOp .neq 20 .nilIface .nilIface).run Tryz.prog W = .ok (.bool false) W := fun W => by kernel_rfl
 go_wp2_with fail
 cases c₀
 simp_all [bodyPostS, results, Tryz.results77]
/-- how try ends -/
def TryEnd (N : Nat) (QT QF : World → Prop) (e : Ending) (w' : World) : Prop :=
 (e = .returned (.bool true) ∧ ∃ w1, QT w1 ∧ w' = w1.setCell ⟨N, 0, none⟩ (.bool true)) ∨ (e = .returned (.bool false) ∧ ∃ w1, QF w1 ∧ w' = w1.setCell ⟨N, 0, none⟩ (.bool false))
set_option maxRecDepth 100000 in
theorem try_is (f : Nat) (first cap : Array Value) (w : World) (QT QF : World → Prop) (hen : ∀ args W, (callFunc f args).run Tryz.prog W = .ok (.enter f args) W)
  (hdo : Calls Tryz.prog f (first ++ cap) (w.alloc (.cells #[.bool false] 4)) fun e w' => w'.heap[w.heap.size]? = some (.cells #[.bool false] 4 (0, 0)) ∧ ((e = .returned (.tuple #[]) ∧ QT w') ∨ (e = wrongE ∧ QF w'))) :
  Calls Tryz.prog 38 #[.func (.func f) first cap] w (TryEnd w.heap.size QT QF) := by
 have hmf : ∀ (fn : Fn) (first cap : Array Value) (w : World), (Instr.makeFunc fn first cap).run Tryz.prog w = .ok (.func fn first cap) w := fun _ _ _ _ => rfl
 have HDO := Lib.hid hdo
 clear hdo
 obtain ⟨N, hN⟩ : ∃ N, w.heap.size = N := ⟨_, rfl⟩
 rw [hN] at HDO
 rw [hN]
 have HN := Lib.hid hN
 clear hN
 go_enter_defers Tryz.func38, Tryz.ntmps38
 go_wp2_with fail
 rw [HN.out]
 refine HDO.out.mono ?_
 rintro e w1 ⟨hb, ⟨rfl, hq⟩ | ⟨rfl, hq⟩⟩
 ·have HF := Lib.hid (show TryEnd N QT QF (.returned (.bool true)) (w1.setCell ⟨N, 0, none⟩ (.bool true)) from .inl ⟨rfl, w1, hq, rfl⟩)
  have c0 : w1.cell? ⟨N, 0, none⟩ = some (.bool false) := by rw [Lib.cell_of_heap hb]; rfl
  have f0 : w1.frozen? ⟨N, 0, none⟩ = false := Lib.frozen_of_heap hb 0
  clear hb hq
  go_wp2_with fail
  refine leaves_cons (f := 77) (args := #[.pointer (some ⟨N, 0, none⟩)]) (by simp) (by simp [go_sem]) ?_
  refine (catch_idle ⟨N, 0, none⟩ _).mono ?_
  rintro e u' w'' ⟨rfl, rfl, rfl⟩
  have c1 : (w1.setCell ⟨N, 0, none⟩ (.bool true)).cell? ⟨N, 0, none⟩ = some (.bool true) := World.cell?_setCell_same w1 _ _ c0
  simp [Leaves, settle, results, Tryz.results38, go_sem, c1]
  exact HF.out
 ·have HF := Lib.hid (show TryEnd N QT QF (.returned (.bool false)) (w1.setCell ⟨N, 0, none⟩ (.bool false)) from .inr ⟨rfl, w1, hq, rfl⟩)
  have c0 : w1.cell? ⟨N, 0, none⟩ = some (.bool false) := by rw [Lib.cell_of_heap hb]; rfl
  have f0 : w1.frozen? ⟨N, 0, none⟩ = false := Lib.frozen_of_heap hb 0
  clear hb hq
  unfold wrongE
  go_wp2_with fail
  refine leaves_cons (f := 77) (args := #[.pointer (some ⟨N, 0, none⟩)]) (by simp) (by simp [go_sem]) ?_
  refine (catch_panicking ⟨N, 0, none⟩ false [] _ c0 f0).mono ?_
  rintro e u' w'' ⟨rfl, rfl, rfl⟩
  have c1 : (w1.setCell ⟨N, 0, none⟩ (.bool false)).cell? ⟨N, 0, none⟩ = some (.bool false) := World.cell?_setCell_same w1 _ _ c0
  simp [Leaves, settle, results, Tryz.results38, go_sem, c1]
  exact HF.out
end Go.Proofs.YtkbedajbbakihaaGreatDoor

/-
 ReadRequest, walked. Conditions: the text has at most 8 * 10^7 bytes; the listed variables read as laid.
-/
namespace Go.Proofs.YtkbedajbbakihaaGreatDoor
open Go.RowKit
set_option linter.unusedSimpArgs false
set_option linter.unusedVariables false

/-- a request's cells -/
def reqA (r : Req) : Array Value := #[.int .i64 r.deed, .int .i64 r.ht, .int .u32 r.hg, .int .u8 r.hr, strV r.key, strV r.val, strV r.old, .int .i64 r.lim, .int .i64 r.ten, .int .u64 r.qk, .int .u64 r.qb, .int .u8 r.rts]
def reqV (r : Req) : Value := .agg (reqA r)
theorem reqA_size (r : Req) : (reqA r).size = 12 := rfl
theorem reqA_one (r : Req) : (reqA r).all (·.oneCell') = true := by
 simp [reqA, strV, Value.oneCell']
theorem reqA_info : (Tryz.prog.info? 39).map (·.size) = some 12 := by kernel_rfl
theorem rd_range {b K : Nat} {r : Req} {v : Value} {ws : List (List UInt8)} {w : World} (h : RdW b K (reqRow r v) ws w) : w.rangeAt b 1 (reqA r).toList := by
 intro j u hj
 have hlt : j < 12 := by
  rcases Nat.lt_or_ge j 12 with h9 | h9
  ·exact h9
  ·rw [List.getElem?_eq_none (by simp [reqA]; omega)] at hj; cases hj
 rw [Lib.cell_of_heap h.2.2.2.1, ← hj]
 have hj' : j = 0 ∨ j = 1 ∨ j = 2 ∨ j = 3 ∨ j = 4 ∨ j = 5 ∨ j = 6 ∨ j = 7 ∨ j = 8 ∨ j = 9 ∨ j = 10 ∨ j = 11 := by omega
 rcases hj' with rfl | rfl | rfl | rfl | rfl | rfl | rfl | rfl | rfl | rfl | rfl | rfl <;> rfl
def wsC (ws : List (List UInt8)) : List Value := ws.map fun x => Value.string ⟨x.toArray⟩
theorem wsC_get {ws : List (List UInt8)} {j : Nat} (h : j < ws.length) : (wsC ws)[j]? = some (.string ⟨(wrd ws j).toArray⟩) := by
 simp [wsC, wrd, List.getD_eq_getElem?_getD, h]
theorem wsC_map (X : List ByteArray) : wsC (X.map (·.data.toList)) = X.map Value.string := by
 simp [wsC]
theorem split_sp (l : List UInt8) (hl : l.length ≤ 1000000000) (w : World) (hw : Laid w) :
  Calls Tryz.prog 37 #[.string ⟨l.toArray⟩, .string ⟨#[32]⟩] w fun e w' => e = .returned (.slice (some ⟨w.heap.size, 0, none⟩) (spl l).length (spl l).length) ∧ w' = w.alloc (.cells (wsC (spl l)).toArray 9) := by
 obtain ⟨_, _, m, hm⟩ := hw
 have h1 : ByteArray.size ⟨#[32]⟩ = 1 := rfl
 refine (Tryz.strings_Split ⟨l.toArray⟩ ⟨#[32]⟩ m w (by rw [size_mk]; omega) hm (by rw [h1]; omega)).mono ?_
 rintro e w' ⟨rfl, rfl⟩
 have hc : Lib.countB ⟨l.toArray⟩ ⟨#[32]⟩ = l.count 32 := Lib.count_one 32 l
 have hd := Lib.splitB_data ⟨#[32]⟩ 0 (l.count 32) ⟨l.toArray⟩
 have hs : Lib.splitK (ByteArray.data ⟨#[32]⟩).toList 0 (l.count 32) (ByteArray.data ⟨l.toArray⟩).toList = spl l := splitK_spl l
 rw [hs] at hd
 rw [hc, spl_len, ← wsC_map, hd]
 exact ⟨rfl, rfl⟩
theorem mem_sum {ws : List (List UInt8)} {x : List UInt8} (h : x ∈ ws) : x.length ≤ sumL ws := by
 induction ws with
 | nil => cases h
 | cons a t ih =>
  simp only [sumL, List.map_cons, List.sum_cons] at ih ⊢
  rcases List.mem_cons.1 h with rfl | h
  ·omega
  ·have := ih h; omega
theorem spl_le {l x : List UInt8} (h : x ∈ spl l) : x.length ≤ l.length := by
 have := mem_sum h
 have := spl_sum l
 omega
theorem spl_len_le (l : List UInt8) : (spl l).length ≤ l.length + 1 := by
 have := spl_len l
 have := List.count_le_length (a := (32 : UInt8)) (l := l)
 omega
/-- a new reader -/
theorem rd_new (l : List UInt8) (hl : l.length ≤ 80000000) (w0 W1 : World) (hw0 : Laid w0) (hl0 : Later w0 W1) (L : Nat) (hL : W1.heap[L]? = some (.cells (wsC (spl l)).toArray 9 (0, 0))) (W2 : World)
  (hW2 : W1.alloc (.cells (reqRow req0 (.slice (some ⟨L, 0, none⟩) (spl l).length (spl l).length)) 83) = W2) :
  RdQ W1.heap.size W2.heap.size req0 (spl l) W2 := by
 have hs : W2.heap.size = W1.heap.size + 1 := by rw [← hW2]; simp
 have hl1 : Later W1 W2 := by rw [← hW2]; exact (Later.refl W1).alloc _
 have hLt : L < W1.heap.size := by
  rcases Nat.lt_or_ge L W1.heap.size with h | h
  ·exact h
  ·rw [Array.getElem?_eq_none h] at hL; cases hL
 have hL2 : W2.heap[L]? = some (.cells (wsC (spl l)).toArray 9 (0, 0)) := (hl1.block L hLt).trans hL
 refine ⟨_, ⟨by omega, w0, hw0, hl0.trans hl1, hl0.size⟩, ⟨by omega, Nat.le_refl _⟩, rfl, by rw [← hW2]; exact (MapKept.heap_alloc W1 _).1, _, rfl, ⟨L, 0, (spl l).length, rfl, Nat.le_refl _, ?_, by omega, by omega, fun i hi => ?_⟩, fun x hx => ?_⟩
 ·have := spl_len_le l; omega
 ·rw [Nat.zero_add, Lib.cell_of_heap hL2, List.getElem?_toArray]
  exact wsC_get hi
 ·have := spl_le hx; omega
/-- how ReadRequest ends -/
def RREnd (res : Option Req) (e : Ending) : Prop :=
 match res with
 | some r => e = .returned (.tuple #[reqV r, .int .i64 0])
 | none => e = .returned (.tuple #[reqV req0, .int .i64 7])
/-- a request's cells in a block of their own are the result -/
theorem req_cells {W : World} {R : Nat} {r : Req} (h : W.heap[R]? = some (.cells (reqA r) 39 (0, 0))) :
  W.cell? ⟨R, 0, none⟩ = some (.int .i64 r.deed) ∧ W.cell? ⟨R, 1, none⟩ = some (.int .i64 r.ht) ∧ W.cell? ⟨R, 2, none⟩ = some (.int .u32 r.hg) ∧ W.cell? ⟨R, 3, none⟩ = some (.int .u8 r.hr) ∧
  W.cell? ⟨R, 4, none⟩ = some (strV r.key) ∧ W.cell? ⟨R, 5, none⟩ = some (strV r.val) ∧ W.cell? ⟨R, 6, none⟩ = some (strV r.old) ∧ W.cell? ⟨R, 7, none⟩ = some (.int .i64 r.lim) ∧
  W.cell? ⟨R, 8, none⟩ = some (.int .i64 r.ten) ∧ W.cell? ⟨R, 9, none⟩ = some (.int .u64 r.qk) ∧ W.cell? ⟨R, 10, none⟩ = some (.int .u64 r.qb) ∧ W.cell? ⟨R, 11, none⟩ = some (.int .u8 r.rts) := by
 refine ⟨?_, ?_, ?_, ?_, ?_, ?_, ?_, ?_, ?_, ?_, ?_, ?_⟩ <;> rw [Lib.cell_of_heap h] <;> rfl
set_option maxRecDepth 100000 in
theorem enter39 (args : Array Value) (W : World) : (callFunc 39 args).run Tryz.prog W = .ok (.enter 39 args) W := rfl
/-- the result's row is stored -/
theorem row_later {w W : World} {R : Nat} (h : Later w W) (hR : w.heap.size ≤ R) (cs : Array Value) : Later w (W.setRow R cs) :=
 ⟨h.os, h.tape, h.output, by have := h.size; simpa using this, fun k hk => (setRow_other W R k cs (by omega)).trans (h.block k hk)⟩
set_option maxRecDepth 100000 in
set_option maxHeartbeats 1000000 in
theorem ReadRequest_is (l : List UInt8) (hl : l.length ≤ 80000000) (w : World) (hw : Laid w) :
  Calls Tryz.prog 15 #[.string ⟨l.toArray⟩] w fun e w' => RREnd (readR (spl l)) e ∧ Later w w' := by
 obtain ⟨res, hres⟩ : ∃ res, readR (spl l) = res := ⟨_, rfl⟩
 rw [hres]
 have HRES := Lib.hid hres
 have HSP := Lib.hid (fun w1 (h1 : Laid w1) => split_sp l (by omega) w1 h1)
 have HNEW := Lib.hid (fun W1 (h1 : Later w W1) L hL W2 hW2 => rd_new l hl w W1 hw h1 L hL W2 hW2)
 have HLW := Lib.hid hw
 obtain ⟨ws, hws⟩ : ∃ ws, spl l = ws := ⟨_, rfl⟩
 rw [hws] at HRES HSP HNEW
 obtain ⟨n, hn⟩ : ∃ n, ws.length = n := ⟨_, rfl⟩
 rw [hn] at HSP HNEW
 obtain ⟨T, hT⟩ : ∃ T : ByteArray, T = ⟨l.toArray⟩ := ⟨_, rfl⟩
 rw [← hT] at HSP ⊢
 have hmf : ∀ (fn : Fn) (first cap : Array Value) (w : World), (Instr.makeFunc fn first cap).run Tryz.prog w = .ok (.func fn first cap) w := fun _ _ _ _ => rfl
 clear hres hw hl hws hn hT
 go_enter Tryz.func15, Tryz.ntmps15
 go_wp2_with fail
 obtain ⟨R, hR⟩ : ∃ R, w.heap.size = R := ⟨_, rfl⟩
 obtain ⟨W0, hW0⟩ : ∃ W0, w.alloc (.cells #[.int .i64 0, .int .i64 0, .int .u32 0, .int .u8 0, .string ⟨#[]⟩, .string ⟨#[]⟩, .string ⟨#[]⟩, .int .i64 0, .int .i64 0, .int .u64 0, .int .u64 0, .int .u8 0] 39) = W0 := ⟨_, rfl⟩
 rw [hR, hW0]
 have hl0 : Later w W0 := by rw [← hW0]; exact (Later.refl w).alloc _
 have hb0 : W0.heap[R]? = some (.cells (reqA req0) 39 (0, 0)) := by rw [← hW0, ← hR]; exact (MapKept.heap_alloc w _).1
 have hR0 : R < W0.heap.size := by rw [← hW0, ← hR]; simp
 have HH := Lib.hid (And.intro hl0 (And.intro hb0 (And.intro hR0 hR)))
 clear hR hW0 hl0 hb0 hR0
 refine (HSP.out _ (HLW.out.later HH.out.1)).mono ?_
 rintro e w1 ⟨rfl, hw1⟩
 obtain ⟨L, hL⟩ : ∃ L, W0.heap.size = L := ⟨_, rfl⟩
 have hl1 : Later W0 w1 := by rw [hw1]; exact (Later.refl W0).alloc _
 have hbL : w1.heap[L]? = some (.cells (wsC ws).toArray 9 (0, 0)) := by rw [hw1, ← hL]; exact (MapKept.heap_alloc W0 _).1
 have HH1 := Lib.hid (And.intro hl1 hbL)
 rw [hL]
 clear hw1 hL hl1 hbL
 go_wp2_with fail
 obtain ⟨b, hb⟩ : ∃ b, w1.heap.size = b := ⟨_, rfl⟩
 obtain ⟨W2, hW2⟩ : ∃ W2, w1.alloc (.cells (reqRow req0 (.slice (some ⟨L, 0, none⟩) n n)) 83) = W2 := ⟨_, rfl⟩
 have hq2 := HNEW.out w1 (HH.out.1.trans HH1.out.1) L HH1.out.2 W2 hW2
 have hl2 : Later w1 W2 := by rw [← hW2]; exact (Later.refl w1).alloc _
 have hb2 : b < W2.heap.size := by rw [← hW2, ← hb]; simp
 simp only [reqRow, req0, strV] at hW2
 rw [hW2, hb]
 rw [hb] at hq2
 obtain ⟨K, hK⟩ : ∃ K, W2.heap.size = K := ⟨_, rfl⟩
 have h3 := hq2.later ((Later.refl W2).alloc (.cells #[.bool false] 4))
 have HT := Lib.hid (try_is 39 #[.pointer (some ⟨b, 0, none⟩)] #[] W2 (fun w1 => ∃ r, res = some r ∧ RdQ b K r [] w1 ∧ Only b (W2.alloc (.cells #[.bool false] 4)) w1) (fun w1 => res = none ∧ Only b (W2.alloc (.cells #[.bool false] 4)) w1) enter39
  ((request_is b K ws _ (by rw [← hK]; exact h3)).mono fun e w' hQ => by
   obtain ⟨ho, hm⟩ := hQ
   refine ⟨?_, ?_⟩
   ·rw [ho.block W2.heap.size (by simp) (by omega)]
    exact (MapKept.heap_alloc W2 _).1
   ·rw [HRES.out] at hm
    cases res with
    | none => exact .inr ⟨hm, rfl, ho⟩
    | some r => exact .inl ⟨hm.1, r, rfl, hm.2, ho⟩))
 have HH2 := Lib.hid (And.intro hl2 (And.intro hb2 (And.intro hK hb)))
 rw [hK] at HT
 clear hq2 h3 hl2 hb2 hb hK hW2
 refine HT.out.mono ?_
 have hrow : ∀ w5 : World, Only b (W2.alloc (.cells #[.bool false] 4)) w5 → ∀ t, (w5.setCell ⟨K, 0, none⟩ (.bool t)).heap[R]? = some (.cells (reqA req0) 39 (0, 0)) ∧ Later w (w5.setCell ⟨K, 0, none⟩ (.bool t)) ∧ Below K w5 (w5.setCell ⟨K, 0, none⟩ (.bool t)) := fun w5 ho t => by
  have hbel : Below K w5 (w5.setCell ⟨K, 0, none⟩ (.bool t)) := (Below.refl K w5).setCell (p := ⟨K, 0, none⟩) (Nat.le_refl _) _
  have s1 := HH1.out.1.size
  have s2 := HH2.out.1.size
  have e2 := HH2.out.2.2.1
  have e3 := HH2.out.2.2.2
  have e4 := HH.out.2.2.1
  have e5 := HH.out.2.2.2
  have hl4 : Later w (W2.alloc (.cells #[.bool false] 4)) := ((HH.out.1.trans HH1.out.1).trans HH2.out.1).alloc _
  have hl5 : Later w w5 := ho.later hl4 (by omega)
  refine ⟨?_, Below.trans hl5 (Below.mono hbel (by omega)), hbel⟩
  rw [hbel.block R (by omega), ho.block R (by simp; omega) (by omega), ((Later.refl W2).alloc (.cells #[.bool false] 4)).block R (by omega), HH2.out.1.block R (by omega), HH1.out.1.block R e4]
  exact HH.out.2.1
 have HROW := Lib.hid hrow
 have hwR : w.heap.size ≤ R := Nat.le_of_eq HH.out.2.2.2
 clear hrow
 rintro e w4 (⟨rfl, w5, ⟨r, rfl, hq5, ho⟩, rfl⟩ | ⟨rfl, w5, ⟨rfl, ho⟩, rfl⟩)
 ·obtain ⟨h1, h2, h3⟩ := HROW.out w5 ho true
  obtain ⟨v6, hv6⟩ := hq5.below h3
  have hrg := rd_range hv6
  have hfin := setRow_heap (w5.setCell ⟨K, 0, none⟩ (.bool true)) R (reqA req0) (reqA r) 39 (0, 0) h1
  obtain ⟨a0, a1, a2, a3, a4, a5, a6, a7, a8, a9, a10, a11⟩ := req_cells hfin
  have HF := Lib.hid (row_later h2 hwR (reqA r))
  have HA := Lib.hid (And.intro hrg h1)
  have HCS := Lib.hid (And.intro a0 (And.intro a1 (And.intro a2 (And.intro a3 (And.intro a4 (And.intro a5 (And.intro a6 (And.intro a7 (And.intro a8 (And.intro a9 (And.intro a10 a11)))))))))))
  obtain ⟨D, hD⟩ : ∃ D, reqA r = D := ⟨_, rfl⟩
  obtain ⟨W6, hW6⟩ : ∃ W6, w5.setCell ⟨K, 0, none⟩ (.bool true) = W6 := ⟨_, rfl⟩
  rw [hW6, hD] at HF HA HCS
  rw [hW6]
  have hDs : (Tryz.prog.info? 39).map (·.size) = some D.size := by rw [← hD]; exact reqA_info
  have hDo : D.all (·.oneCell') = true := by rw [← hD]; exact reqA_one r
  have hDl : (Tryz.prog.info? 39).map (·.size) = some D.toList.length := by rw [Array.length_toList]; exact hDs
  have hDz : (reqA req0).size = D.size := by rw [← hD]; rfl
  have HDD := Lib.hid (And.intro hD (And.intro hDs (And.intro hDo (And.intro hDl hDz))))
  clear h1 h2 h3 hv6 hrg hfin a0 a1 a2 a3 a4 a5 a6 a7 a8 a9 a10 a11 hq5 ho hW6 hD hDs hDo hDl hDz
  go_wp2_with (first | (refine wpList_load_mid rfl 39 (.tmp 16) rfl b 1 rfl D.toList _ HA.out.1 Tryz.underlying39 rfl HDD.out.2.2.2.1 ?_) | (refine wpList_store_rowTo rfl 39 (.tmp 2) (.tmp 17) rfl rfl R D rfl rfl 39 (reqA req0) HA.out.2 HDD.out.2.1 HDD.out.2.2.2.2 HDD.out.2.2.1 ?_))
  obtain ⟨a0, a1, a2, a3, a4, a5, a6, a7, a8, a9, a10, a11⟩ := HCS.out
  refine bodyPost_ret (v := .tuple #[reqV r, .int .i64 0]) (by simp [results, Tryz.results15, go_sem, a0, a1, a2, a3, a4, a5, a6, a7, a8, a9, a10, a11, reqV, reqA]) rfl ⟨rfl, HF.out⟩
 ·obtain ⟨h1, h2, h3⟩ := HROW.out w5 ho false
  have hfin := setRow_heap (w5.setCell ⟨K, 0, none⟩ (.bool false)) R (reqA req0) (reqA req0) 39 (0, 0) h1
  obtain ⟨a0, a1, a2, a3, a4, a5, a6, a7, a8, a9, a10, a11⟩ := req_cells hfin
  have HF := Lib.hid (row_later h2 hwR (reqA req0))
  have HA := Lib.hid h1
  have HCS := Lib.hid (And.intro a0 (And.intro a1 (And.intro a2 (And.intro a3 (And.intro a4 (And.intro a5 (And.intro a6 (And.intro a7 (And.intro a8 (And.intro a9 (And.intro a10 a11)))))))))))
  obtain ⟨W6, hW6⟩ : ∃ W6, w5.setCell ⟨K, 0, none⟩ (.bool false) = W6 := ⟨_, rfl⟩
  rw [hW6] at HF HA HCS
  rw [hW6]
  clear h1 h2 h3 hfin a0 a1 a2 a3 a4 a5 a6 a7 a8 a9 a10 a11 ho hW6
  go_wp2_with (refine wpList_store_rowTo rfl 39 (.tmp 2) (.tmp 13) rfl rfl R (reqA req0) rfl rfl 39 (reqA req0) HA.out reqA_info rfl (reqA_one req0) ?_)
  clear HA
  generalize W6.setRow R (reqA req0) = W7 at HCS HF ⊢
  obtain ⟨a0, a1, a2, a3, a4, a5, a6, a7, a8, a9, a10, a11⟩ := HCS.out
  refine bodyPost_ret (v := .tuple #[reqV req0, .int .i64 7]) (by simp [results, Tryz.results15, go_sem, a0, a1, a2, a3, a4, a5, a6, a7, a8, a9, a10, a11, reqV, reqA]) rfl ⟨rfl, HF.out⟩
end Go.Proofs.YtkbedajbbakihaaGreatDoor
