/-
 Texts of this proof, put together (Os): each part's first words say what it holds. Conditions: as each part says.
-/
import Derived.Test.YtkbedajbbakihaaGreatDoorQz
import Derived.Test.YtkbedajbbakihaaGreatDoorYd
/-
 A script as an argument, opened from its reading. Conditions: none.
-/
namespace Go.Proofs.YtkbedajbbakihaaGreatDoor
open Go.RowKit Go.WideShapes Go.ChangeShapes
set_option linter.unusedSimpArgs false
set_option linter.unusedVariables false
set_option maxRecDepth 100000
section
variable {H : Type} {enc : TypeId × Value → H} {W : World} {base : Nat} {sp : Nat → Bool} {held : Bool}
theorem n3 : Tryz.prog.cellsOf 3 = 1 := by kernel_rfl
theorem n9 : Tryz.prog.cellsOf 9 = 1 := by kernel_rfl
theorem n30 : Tryz.prog.cellsOf 30 = 1 := by kernel_rfl
theorem n31 : Tryz.prog.cellsOf 31 = 1 := by kernel_rfl
theorem n32 : Tryz.prog.cellsOf 32 = 1 := by kernel_rfl
theorem n34 : Tryz.prog.cellsOf 34 = 3 := by kernel_rfl
theorem n35 : Tryz.prog.cellsOf 35 = 1 := by kernel_rfl
theorem n37 : Tryz.prog.cellsOf 37 = 2 := by kernel_rfl
theorem n39 : Tryz.prog.cellsOf 39 = 12 := by kernel_rfl
theorem n42 : Tryz.prog.cellsOf 42 = 1 := by kernel_rfl
theorem n43 : Tryz.prog.cellsOf 43 = 1 := by kernel_rfl
theorem n45 : Tryz.prog.cellsOf 45 = 2 := by kernel_rfl
theorem n59 : Tryz.prog.cellsOf 59 = 13 := by kernel_rfl
theorem field_at {fs : Array Field} {n : Nat} {cs : List Value} {xs : List (DataW H × List MemPlace)} (hf : ∀ (i : Nat) (f : Field), fs[i]? = some f → DataW.trod enc Tryz.prog W base sp held n f.type ((cs.drop f.offset).take (Tryz.prog.cellsOf f.type)) = xs[i]?) (hxl : xs.length = fs.size)
  (i : Nat) (f : Field) (hi : fs[i]? = some f) (k : Nat) (hk : Tryz.prog.cellsOf f.type = k) : ∃ y, DataW.trod enc Tryz.prog W base sp held n f.type ((cs.drop f.offset).take k) = some y := by
 have h1 := hf i f hi
 have h2 : i < xs.length := by rw [hxl]; exact (Array.getElem?_eq_some_iff.1 hi).1
 rw [List.getElem?_eq_getElem h2, hk] at h1
 exact ⟨_, h1⟩
theorem field_of {fs : Array Field} {n : Nat} {cs : List Value} {xs : List (DataW H × List MemPlace)} (hf : ∀ (i : Nat) (f : Field), fs[i]? = some f → DataW.trod enc Tryz.prog W base sp held n f.type ((cs.drop f.offset).take (Tryz.prog.cellsOf f.type)) = xs[i]?)
  (i : Nat) (f : Field) (hi : fs[i]? = some f) (k : Nat) (hk : Tryz.prog.cellsOf f.type = k) : DataW.trod enc Tryz.prog W base sp held n f.type ((cs.drop f.offset).take k) = xs[i]? := by
 have h1 := hf i f hi
 rwa [hk] at h1
theorem bulk_mem {d : DataW H} : ∀ {l : List (DataW H)}, d ∈ l → Rows.uptoBulk d ≤ Rows.uptoBulkAll l
 | [], h => by cases h
 | a :: t, h => by
  rw [bulk_cons]
  rcases List.mem_cons.1 h with rfl | h
  ·omega
  ·have := bulk_mem h; omega
theorem bulk_agg (l : List (DataW H)) : Rows.uptoBulk (.agg l) = Rows.uptoBulkAll l + 1 := by simp [Rows.uptoBulk]
theorem bulk_slice (l m : List (DataW H)) : Rows.uptoBulk (.slice l m) = Rows.uptoBulkAll l + Rows.uptoBulkAll m + 1 := by simp [Rows.uptoBulk]
theorem bulk_pos (d : DataW H) : 1 ≤ Rows.uptoBulk d := by cases d <;> first | (rename_i l; cases l <;> simp [Rows.uptoBulk]) | simp [Rows.uptoBulk]
theorem bulk_len : ∀ (l : List (DataW H)), l.length ≤ Rows.uptoBulkAll l
 | [] => by simp
 | a :: t => by
  rw [bulk_cons, List.length_cons]
  have := bulk_len t
  have := bulk_pos a
  omega
theorem trod_hdl {fuel : Nat} {cs : List Value} {x : DataW H × List MemPlace} (h : DataW.trod enc Tryz.prog W base sp held fuel 34 cs = some x) : ∃ a b c : Int, cs = [.int .i64 a, .int .u32 b, .int .u8 c] ∧ (Lit.int .i64 a).wf = true ∧ (Lit.int .u32 b).wf = true ∧ (Lit.int .u8 c).wf = true := by
 obtain ⟨xs, n, rfl, -, hl, hxl, hf⟩ := DataW.trod_struct Tryz.underlying34 h
 rw [n34] at hl
 match cs, hl with
 | [c0, c1, c2], _ =>
  obtain ⟨y0, k0⟩ := field_at hf hxl 0 _ rfl 1 n3
  obtain ⟨y1, k1⟩ := field_at hf hxl 1 _ rfl 1 n31
  obtain ⟨y2, k2⟩ := field_at hf hxl 2 _ rfl 1 n32
  change DataW.trod enc Tryz.prog W base sp held n 3 [c0] = some y0 at k0
  change DataW.trod enc Tryz.prog W base sp held n 31 [c1] = some y1 at k1
  change DataW.trod enc Tryz.prog W base sp held n 32 [c2] = some y2 at k2
  obtain ⟨a, e0, -, w0⟩ := DataW.trod_int Tryz.underlying3 k0
  obtain ⟨b, e1, -, w1⟩ := DataW.trod_int Tryz.underlying31 k1
  obtain ⟨c, e2, -, w2⟩ := DataW.trod_int Tryz.underlying32 k2
  cases e0; cases e1; cases e2
  exact ⟨a, b, c, rfl, w0, w1, w2⟩
theorem trod_quo {fuel : Nat} {cs : List Value} {x : DataW H × List MemPlace} (h : DataW.trod enc Tryz.prog W base sp held fuel 37 cs = some x) : ∃ a b : Int, cs = [.int .u64 a, .int .u64 b] ∧ (Lit.int .u64 a).wf = true ∧ (Lit.int .u64 b).wf = true := by
 obtain ⟨xs, n, rfl, -, hl, hxl, hf⟩ := DataW.trod_struct Tryz.underlying37 h
 rw [n37] at hl
 match cs, hl with
 | [c0, c1], _ =>
  obtain ⟨y0, k0⟩ := field_at hf hxl 0 _ rfl 1 n35
  obtain ⟨y1, k1⟩ := field_at hf hxl 1 _ rfl 1 n35
  change DataW.trod enc Tryz.prog W base sp held n 35 [c0] = some y0 at k0
  change DataW.trod enc Tryz.prog W base sp held n 35 [c1] = some y1 at k1
  obtain ⟨a, e0, -, w0⟩ := DataW.trod_int Tryz.underlying35 k0
  obtain ⟨b, e1, -, w1⟩ := DataW.trod_int Tryz.underlying35 k1
  cases e0; cases e1
  exact ⟨a, b, rfl, w0, w1⟩
theorem max_le (s : ByteArray) (h : s.size ≤ maxLen) : s.data.toList.length ≤ 9223372036854775807 := by
 rw [← Lib.size_eq]
 unfold maxLen at h
 omega
theorem trod_req {fuel : Nat} {cs : List Value} {x : DataW H × List MemPlace} (h : DataW.trod enc Tryz.prog W base sp held fuel 39 cs = some x) : ∃ r : Req, cs = (reqA r).toList ∧ r.wf ∧ r.key.length + r.val.length + r.old.length ≤ Rows.uptoBulk x.1 := by
 obtain ⟨xs, n, rfl, hx, hl, hxl, hf⟩ := DataW.trod_struct Tryz.underlying39 h
 rw [n39] at hl
 simp only [List.size_toArray, List.length_cons, List.length_nil] at hxl
 match cs, hl, xs, hxl with
 | [c0, c1, c2, c3, c4, c5, c6, c7, c8, c9, c10, c11], _, [y0, y1, y2, y3, y4, y5, y6, y7, y8], _ =>
  have k0 := field_of hf 0 _ rfl 1 n30
  have k1 := field_of hf 1 _ rfl 3 n34
  have k2 := field_of hf 2 _ rfl 1 n9
  have k3 := field_of hf 3 _ rfl 1 n9
  have k4 := field_of hf 4 _ rfl 1 n9
  have k5 := field_of hf 5 _ rfl 1 n3
  have k6 := field_of hf 6 _ rfl 1 n3
  have k7 := field_of hf 7 _ rfl 2 n37
  have k8 := field_of hf 8 _ rfl 1 n32
  change DataW.trod enc Tryz.prog W base sp held n 30 [c0] = some y0 at k0
  change DataW.trod enc Tryz.prog W base sp held n 34 [c1, c2, c3] = some y1 at k1
  change DataW.trod enc Tryz.prog W base sp held n 9 [c4] = some y2 at k2
  change DataW.trod enc Tryz.prog W base sp held n 9 [c5] = some y3 at k3
  change DataW.trod enc Tryz.prog W base sp held n 9 [c6] = some y4 at k4
  change DataW.trod enc Tryz.prog W base sp held n 3 [c7] = some y5 at k5
  change DataW.trod enc Tryz.prog W base sp held n 3 [c8] = some y6 at k6
  change DataW.trod enc Tryz.prog W base sp held n 37 [c9, c10] = some y7 at k7
  change DataW.trod enc Tryz.prog W base sp held n 32 [c11] = some y8 at k8
  obtain ⟨d, e0, -, w0⟩ := DataW.trod_int Tryz.underlying30 k0
  obtain ⟨ht, hg, hr, e1, w1, w1', w1''⟩ := trod_hdl k1
  obtain ⟨K, e2, z2, w2⟩ := DataW.trod_string Tryz.underlying9 k2
  obtain ⟨V, e3, z3, w3⟩ := DataW.trod_string Tryz.underlying9 k3
  obtain ⟨O, e4, z4, w4⟩ := DataW.trod_string Tryz.underlying9 k4
  obtain ⟨l, e5, -, w5⟩ := DataW.trod_int Tryz.underlying3 k5
  obtain ⟨tn, e6, -, w6⟩ := DataW.trod_int Tryz.underlying3 k6
  obtain ⟨qk, qb, e7, w7, w7'⟩ := trod_quo k7
  obtain ⟨rt, e8, -, w8⟩ := DataW.trod_int Tryz.underlying32 k8
  cases e0; cases e1; cases e2; cases e3; cases e4; cases e5; cases e6; cases e7; cases e8
  refine ⟨⟨d, ht, hg, hr, K.data.toList, V.data.toList, O.data.toList, l, tn, qk, qb, rt⟩, rfl, ⟨w0, w1, w1', w1'', w5, w6, w7, w7', w8, max_le K w2, max_le V w3, max_le O w4⟩, ?_⟩
  subst hx z2 z3 z4
  dsimp only
  rw [bulk_agg]
  simp only [List.map_cons, List.map_nil, bulk_cons, bulk_str]
  omega
theorem trod_ent {fuel : Nat} {cs : List Value} {x : DataW H × List MemPlace} (h : DataW.trod enc Tryz.prog W base sp held fuel 59 cs = some x) : ∃ e : Int × Req, cs = ent1 e ∧ ((Lit.int .i64 e.1).wf = true ∧ e.2.wf) ∧ e.2.key.length + e.2.val.length + e.2.old.length ≤ Rows.uptoBulk x.1 := by
 obtain ⟨xs, n, rfl, hx, hl, hxl, hf⟩ := DataW.trod_struct Tryz.underlying59 h
 rw [n59] at hl
 simp only [List.size_toArray, List.length_cons, List.length_nil] at hxl
 match cs, hl, xs, hxl with
 | c0 :: t, ht, [y0, y1], _ =>
  have k0 := field_of hf 0 _ rfl 1 n3
  have k1 := field_of hf 1 _ rfl 12 n39
  change DataW.trod enc Tryz.prog W base sp held n 3 [c0] = some y0 at k0
  change DataW.trod enc Tryz.prog W base sp held n 39 (t.take 12) = some y1 at k1
  rw [List.take_of_length_le (by simp only [List.length_cons] at ht; omega)] at k1
  obtain ⟨a, e0, -, w0⟩ := DataW.trod_int Tryz.underlying3 k0
  obtain ⟨r, rfl, w1, w2⟩ := trod_req k1
  cases e0
  refine ⟨(a, r), rfl, ⟨w0, w1⟩, ?_⟩
  subst hx
  dsimp only
  rw [bulk_agg]
  simp only [List.map_cons, List.map_nil, bulk_cons]
  omega
theorem trod_ents {fuel : Nat} {cs : List Value} {x : DataW H × List MemPlace} (h : DataW.trod enc Tryz.prog W base sp held fuel 42 cs = some x) : ∃ (v : Value) (es : List (Int × Req)), cs = [v] ∧ EntsAt W v es ∧ (es.length ≤ maxLen ∧ es.length ≤ Rows.uptoBulk x.1) ∧ ∀ e ∈ es, ((Lit.int .i64 e.1).wf = true ∧ e.2.wf) ∧ e.2.key.length + e.2.val.length + e.2.old.length ≤ Rows.uptoBulk x.1 := by
 rcases DataW.trod_slice Tryz.underlying42 h with ⟨rfl, _⟩ | ⟨a, len, cap, elems, rest, n, _, rfl, hx, hb, hl, hm, hlen, hel, _⟩
 ·exact ⟨_, [], rfl, ⟨none, 0, rfl, .inl rfl⟩, ⟨by unfold maxLen; simp, by simp⟩, fun e he => by cases he⟩
 ·by_cases h0 : len = 0
  ·subst h0
   exact ⟨_, [], rfl, ⟨some a, cap, rfl, .inl rfl⟩, ⟨by unfold maxLen; simp, by simp⟩, fun e he => by cases he⟩
  have each : ∀ i, i < len → ∃ e : Int × Req, (((Lit.int .i64 e.1).wf = true ∧ e.2.wf) ∧ e.2.key.length + e.2.val.length + e.2.old.length ≤ Rows.uptoBulk x.1) ∧ ∀ j u, (ent1 e)[j]? = some u → W.cell? ((a.add (i * 13)).add j) = some u := fun i hi => by
   have h1 := hel i hi
   rw [List.getElem?_eq_getElem (by omega), n59] at h1
   obtain ⟨cs, hcs, h2⟩ := Option.bind_eq_some_iff.1 h1
   obtain ⟨_, hcl, hce⟩ := World.cells?_some hcs
   obtain ⟨e, rfl, w0, w1⟩ := trod_ent h2
   refine ⟨e, ⟨w0, ?_⟩, fun j u hu => ?_⟩
   ·refine Nat.le_trans w1 ?_
    rw [hx]
    dsimp only
    rw [bulk_slice]
    have := bulk_mem (List.mem_map.2 ⟨elems[i], List.getElem_mem (by omega), rfl⟩ : elems[i].1 ∈ elems.map (·.1))
    omega
   have hj := (List.getElem?_eq_some_iff.1 hu).1
   have := hce j (by rw [ent1_len] at hj; omega)
   rw [hu] at this
   simpa [Go.WideShapes.add_plain, Addr.add] using this
  obtain ⟨b, off, spot⟩ := a
  have hspot : spot = none := by
   obtain ⟨e, _, h1⟩ := each 0 (by omega)
   have := h1 0 _ rfl
   simpa [Addr.add] using World.cell?_spot this
  subst hspot
  obtain ⟨f, hf⟩ : ∃ f : Nat → Int × Req, ∀ i, i < len → (((Lit.int .i64 (f i).1).wf = true ∧ (f i).2.wf) ∧ (f i).2.key.length + (f i).2.val.length + (f i).2.old.length ≤ Rows.uptoBulk x.1) ∧ ∀ j u, (ent1 (f i))[j]? = some u → W.cell? (((⟨b, off, none⟩ : Addr).add (i * 13)).add j) = some u := by
   refine ⟨fun i => if h : i < len then Classical.choose (each i h) else (0, req0), fun i hi => ?_⟩
   simp only [hi, dif_pos]
   exact Classical.choose_spec (each i hi)
  have hll : ((List.range len).map f).length = len := by simp
  refine ⟨_, (List.range len).map f, rfl, ⟨some ⟨b, off, none⟩, cap, by rw [hll], .inr ⟨b, off, rfl, fun i e he => ?_⟩⟩, ⟨by rw [hll]; omega, by rw [hll, hx]; dsimp only; rw [bulk_slice]; have := bulk_len (elems.map (·.1)); rw [List.length_map] at this; omega⟩, fun e he => ?_⟩
  ·have hi : i < len := by have := (List.getElem?_eq_some_iff.1 he).1; rwa [hll] at this
   have : f i = e := by simpa [hi] using he
   subst this
   intro j u hu
   have := (hf i hi).2 j u hu
   rw [Addr.add_lit, Addr.add_lit] at this
   exact this
  ·obtain ⟨i, hi, rfl⟩ := List.mem_map.1 he
   exact (hf i (by simpa using hi)).1
theorem trod_nums {fuel : Nat} {cs : List Value} {x : DataW H × List MemPlace} (h : DataW.trod enc Tryz.prog W base sp held fuel 43 cs = some x) : ∃ (v : Value) (ps : List Int), cs = [v] ∧ NumsAt W v ps ∧ (ps.length ≤ maxLen ∧ ps.length ≤ Rows.uptoBulk x.1) ∧ ∀ p ∈ ps, (Lit.int .i64 p).wf = true := by
 rcases DataW.trod_slice Tryz.underlying43 h with ⟨rfl, _⟩ | ⟨a, len, cap, elems, rest, n, _, rfl, hx, hb, hl, hm, hlen, hel, _⟩
 ·exact ⟨_, [], rfl, ⟨none, 0, rfl, .inl rfl⟩, ⟨by unfold maxLen; simp, by simp⟩, fun e he => by cases he⟩
 ·by_cases h0 : len = 0
  ·subst h0
   exact ⟨_, [], rfl, ⟨some a, cap, rfl, .inl rfl⟩, ⟨by unfold maxLen; simp, by simp⟩, fun e he => by cases he⟩
  have each : ∀ i, i < len → ∃ p : Int, (Lit.int .i64 p).wf = true ∧ W.cell? (a.add i) = some (.int .i64 p) := fun i hi => by
   have h1 := hel i hi
   rw [List.getElem?_eq_getElem (by omega), n3, Nat.mul_one] at h1
   obtain ⟨cs, hcs, h2⟩ := Option.bind_eq_some_iff.1 h1
   obtain ⟨_, hcl, hce⟩ := World.cells?_some hcs
   obtain ⟨p, rfl, _, w0⟩ := DataW.trod_int Tryz.underlying3 h2
   refine ⟨p, w0, ?_⟩
   have := hce 0 (by omega)
   simpa [Go.WideShapes.add_plain, Addr.add] using this
  obtain ⟨b, off, spot⟩ := a
  have hspot : spot = none := by
   obtain ⟨e, _, h1⟩ := each 0 (by omega)
   simpa [Addr.add] using World.cell?_spot h1
  subst hspot
  obtain ⟨f, hf⟩ : ∃ f : Nat → Int, ∀ i, i < len → (Lit.int .i64 (f i)).wf = true ∧ W.cell? ((⟨b, off, none⟩ : Addr).add i) = some (.int .i64 (f i)) := by
   refine ⟨fun i => if h : i < len then Classical.choose (each i h) else 0, fun i hi => ?_⟩
   simp only [hi, dif_pos]
   exact Classical.choose_spec (each i hi)
  have hll : ((List.range len).map f).length = len := by simp
  refine ⟨_, (List.range len).map f, rfl, ⟨some ⟨b, off, none⟩, cap, by rw [hll], .inr ⟨b, off, rfl, fun i hi => ?_⟩⟩, ⟨by rw [hll]; omega, by rw [hll, hx]; dsimp only; rw [bulk_slice]; have := bulk_len (elems.map (·.1)); rw [List.length_map] at this; omega⟩, fun e he => ?_⟩
  ·rw [hll] at hi
   have := (hf i hi).2
   rw [Addr.add_lit] at this
   rw [List.getD_eq_getElem?_getD]
   simpa [hi] using this
  ·obtain ⟨i, hi, rfl⟩ := List.mem_map.1 he
   exact (hf i (by simpa using hi)).1
/-- a script's argument whose reading is of bulk N at most -/
structure ScrAt (N : Nat) (W : World) (v : Value) (s : Scr) : Prop where
 ex : ∃ ev pv, v = .agg #[ev, pv] ∧ EntsAt W ev s.1 ∧ NumsAt W pv s.2
 max1 : s.1.length ≤ maxLen
 max2 : s.2.length ≤ maxLen
 le1 : s.1.length ≤ N
 le2 : s.2.length ≤ N
 ents : ∀ e ∈ s.1, ((Lit.int .i64 e.1).wf = true ∧ e.2.wf) ∧ e.2.key.length + e.2.val.length + e.2.old.length ≤ N
 nums : ∀ p ∈ s.2, (Lit.int .i64 p).wf = true
theorem open_script {r : Reach} {b0 : Nat} {v : Value} {d : DataW H} {ps : List MemPlace} (hval : Value.okWide Tryz.prog W r b0 45 v) (h : DataW.Trod enc Tryz.prog W base sp held 45 v d ps) : ∃ s, ScrAt (Rows.uptoBulk d) W v s := by
 obtain ⟨cs, rfl, hsz⟩ := okWide_struct Tryz.underlying45 hval
 obtain ⟨fuel, hf⟩ := h
 obtain ⟨xs, n, rfl, hx, hl, hxl, hfs⟩ := DataW.trod_struct Tryz.underlying45 hf
 rw [n45] at hsz
 obtain ⟨l⟩ := cs
 simp only [List.size_toArray, List.length_cons, List.length_nil] at hxl
 match l, hsz, xs, hxl with
 | [c0, c1], _, [y0, y1], _ =>
  have k0 := field_of hfs 0 _ rfl 1 n42
  have k1 := field_of hfs 1 _ rfl 1 n43
  change DataW.trod enc Tryz.prog W base sp held n 42 [c0] = some y0 at k0
  change DataW.trod enc Tryz.prog W base sp held n 43 [c1] = some y1 at k1
  obtain ⟨v0, es, e0, h1, h2, h3⟩ := trod_ents k0
  obtain ⟨v1, qs, e1, g1, g2, g3⟩ := trod_nums k1
  cases e0; cases e1
  have hd : Rows.uptoBulk d = Rows.uptoBulk y0.1 + Rows.uptoBulk y1.1 + 1 := by
   have : d = .agg ([y0, y1].map (·.1)) := congrArg Prod.fst hx
   rw [this, bulk_agg]
   simp only [List.map_cons, List.map_nil, bulk_cons]
   simp [Rows.uptoBulkAll]
  refine ⟨(es, qs), ⟨_, _, rfl, h1, g1⟩, h2.1, g2.1, ?_, ?_, fun e he => ⟨(h3 e he).1, ?_⟩, g3⟩
  ·have := h2.2; dsimp only; omega
  ·have := g2.2; dsimp only; omega
  ·have := (h3 e he).2; omega
theorem trod_kept {W' : World} {t : TypeId} {v : Value} {d : DataW H} {ps : List MemPlace} (hr : Tryz.prog.readableRec t = true) (hrow : t < Tryz.prog.types.size) (h : DataW.Trod enc Tryz.prog W 0 (fun _ => true) true t v d ps) (hb : Later W W') (hlt : ∀ x ∈ ps, x.block < W.heap.size) {sp : Nat → Bool} (hsp : ∀ x ∈ ps, sp x.block = true) :
  DataW.Trod enc Tryz.prog W' 0 sp true t v d ps :=
 WideElems.Trod_stays (show laidOutB Tryz.prog = true by kernel_rfl) hr hrow h (fun x hx => Below.same hb (hlt x hx)) hsp
end
end Go.Proofs.YtkbedajbbakihaaGreatDoor
