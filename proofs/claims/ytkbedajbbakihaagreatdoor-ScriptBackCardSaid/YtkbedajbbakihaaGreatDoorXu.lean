/-
 Texts of this proof, put together (Ow): each part's first words say what it holds. Conditions: as each part says.
-/
import Derived.Test.YtkbedajbbakihaaGreatDoorXi
import Derived.SizedLaws
/-
 A script as an argument, opened by the weights of its reading (each string and slice has at most reachBytes bytes). Conditions: none.
-/
namespace Go.Proofs.YtkbedajbbakihaaGreatDoor
open Go.RowKit Go.WideShapes Go.ChangeShapes
set_option linter.unusedSimpArgs false
set_option linter.unusedVariables false
set_option maxRecDepth 100000
section
variable {H : Type} {enc : TypeId × Value → H} {W : World} {base : Nat} {sp : Nat → Bool} {held : Bool}
/-- all weights of a reading are within the form's reach -/
def Fits (t : TypeId) (d : DataW H) : Prop := ∀ n ∈ d.weights Tryz.prog t, n ≤ reachBytes
theorem weights_all_mem {e : TypeId} {d : DataW H} {n : Nat} : ∀ {l : List (DataW H)}, d ∈ l → n ∈ d.weights Tryz.prog e → n ∈ DataW.weightsAll Tryz.prog e l
 | [], h, _ => by cases h
 | a :: t, h, hn => by
  simp only [DataW.weightsAll, List.mem_append]
  rcases List.mem_cons.1 h with rfl | h
  ·exact .inl hn
  ·exact .inr (weights_all_mem h hn)
theorem fits_part {t u : TypeId} {fs : Array Field} {l : List (DataW H)} (hu : Tryz.prog.underlying t = some (.struct fs)) (h : Fits t (.agg l)) (j : Nat) {d : DataW H} (ht : (fs.toList.map (·.type))[j]? = some u) (hd : l[j]? = some d) : Fits u d := by
 intro n hn
 refine h n ?_
 simp only [DataW.weights, hu]
 exact DataW.weights_mem_each ht hd n hn
theorem fits_str {t : TypeId} {b : List UInt8} (h : Fits (H := H) t (.lit (.string b))) : b.length ≤ reachBytes := h _ (by simp [DataW.weights])
theorem fits_elem {t e : TypeId} {l m : List (DataW H)} (hu : Tryz.prog.underlying t = some (.slice e)) (h : Fits t (.slice l m)) {d : DataW H} (hd : d ∈ l) : Fits e d := by
 intro n hn
 refine h n ?_
 simp only [DataW.weights, hu, List.mem_cons, List.mem_append]
 exact .inr (.inl (weights_all_mem hd hn))
theorem fits_len {t e : TypeId} {l m : List (DataW H)} (hu : Tryz.prog.underlying t = some (.slice e)) (h : Fits t (.slice l m)) (hb : 1 ≤ Tryz.prog.bytesOf e) : l.length ≤ reachBytes := by
 have h1 : (l.length + m.length) * Tryz.prog.bytesOf e ≤ reachBytes := h _ (by simp only [DataW.weights, hu, List.mem_cons, true_or])
 have h2 : (l.length + m.length) * 1 ≤ (l.length + m.length) * Tryz.prog.bytesOf e := Nat.mul_le_mul_left _ hb
 omega
theorem b59 : 1 ≤ Tryz.prog.bytesOf 59 := by rw [show Tryz.prog.bytesOf 59 = 120 by kernel_rfl]; decide
theorem b3 : 1 ≤ Tryz.prog.bytesOf 3 := by rw [show Tryz.prog.bytesOf 3 = 8 by kernel_rfl]; decide
theorem reach_val : reachBytes = 140737488351232 := by decide
theorem trod_reqW {fuel : Nat} {cs : List Value} {x : DataW H × List MemPlace} (h : DataW.trod enc Tryz.prog W base sp held fuel 39 cs = some x) (hw : Fits 39 x.1) : ∃ r : Req, cs = (reqA r).toList ∧ r.wf ∧ r.key.length + r.val.length + r.old.length ≤ 3 * reachBytes := by
 obtain ⟨xs, n, rfl, hx, hl, hxl, hf⟩ := DataW.trod_struct Tryz.underlying39 h
 rw [n39] at hl
 simp only [List.size_toArray, List.length_cons, List.length_nil] at hxl
 match cs, hl, xs, hxl with
 | [c0, c1, c2, c3, c4, c5, c6, c7, c8, c9, c10, c11], _, [y0, y1, y2, y3, y4, y5, y6, y7, y8], _ =>
  have k0 := field_of hf 0 _ rfl 1 n30
  have k1 := field_of hf 1 _ rfl 3 n34
  have k2 := field_of hf 2 _ rfl 1 n9
  have k3 := field_of hf 3 _ rfl 1 n9
  have k4 := field_of hf 4 _ rfl 1 n9
  have k5 := field_of hf 5 _ rfl 1 n3
  have k6 := field_of hf 6 _ rfl 1 n3
  have k7 := field_of hf 7 _ rfl 2 n37
  have k8 := field_of hf 8 _ rfl 1 n32
  change DataW.trod enc Tryz.prog W base sp held n 30 [c0] = some y0 at k0
  change DataW.trod enc Tryz.prog W base sp held n 34 [c1, c2, c3] = some y1 at k1
  change DataW.trod enc Tryz.prog W base sp held n 9 [c4] = some y2 at k2
  change DataW.trod enc Tryz.prog W base sp held n 9 [c5] = some y3 at k3
  change DataW.trod enc Tryz.prog W base sp held n 9 [c6] = some y4 at k4
  change DataW.trod enc Tryz.prog W base sp held n 3 [c7] = some y5 at k5
  change DataW.trod enc Tryz.prog W base sp held n 3 [c8] = some y6 at k6
  change DataW.trod enc Tryz.prog W base sp held n 37 [c9, c10] = some y7 at k7
  change DataW.trod enc Tryz.prog W base sp held n 32 [c11] = some y8 at k8
  obtain ⟨d, e0, -, w0⟩ := DataW.trod_int Tryz.underlying30 k0
  obtain ⟨ht, hg, hr, e1, w1, w1', w1''⟩ := trod_hdl k1
  obtain ⟨K, e2, z2, w2⟩ := DataW.trod_string Tryz.underlying9 k2
  obtain ⟨V, e3, z3, w3⟩ := DataW.trod_string Tryz.underlying9 k3
  obtain ⟨O, e4, z4, w4⟩ := DataW.trod_string Tryz.underlying9 k4
  obtain ⟨l, e5, -, w5⟩ := DataW.trod_int Tryz.underlying3 k5
  obtain ⟨tn, e6, -, w6⟩ := DataW.trod_int Tryz.underlying3 k6
  obtain ⟨qk, qb, e7, w7, w7'⟩ := trod_quo k7
  obtain ⟨rt, e8, -, w8⟩ := DataW.trod_int Tryz.underlying32 k8
  cases e0; cases e1; cases e2; cases e3; cases e4; cases e5; cases e6; cases e7; cases e8
  refine ⟨⟨d, ht, hg, hr, K.data.toList, V.data.toList, O.data.toList, l, tn, qk, qb, rt⟩, rfl, ⟨w0, w1, w1', w1'', w5, w6, w7, w7', w8, max_le K w2, max_le V w3, max_le O w4⟩, ?_⟩
  have hx1 : x.1 = .agg ([y0, y1, y2, y3, y4, y5, y6, y7, y8].map (·.1)) := congrArg Prod.fst hx
  rw [hx1] at hw
  have f2 := fits_part Tryz.underlying39 hw 2 (u := 9) rfl rfl
  have f3 := fits_part Tryz.underlying39 hw 3 (u := 9) rfl rfl
  have f4 := fits_part Tryz.underlying39 hw 4 (u := 9) rfl rfl
  subst z2 z3 z4
  have l2 : K.data.toList.length ≤ reachBytes := fits_str f2
  have l3 : V.data.toList.length ≤ reachBytes := fits_str f3
  have l4 : O.data.toList.length ≤ reachBytes := fits_str f4
  dsimp only
  omega
theorem trod_entW {fuel : Nat} {cs : List Value} {x : DataW H × List MemPlace} (h : DataW.trod enc Tryz.prog W base sp held fuel 59 cs = some x) (hw : Fits 59 x.1) : ∃ e : Int × Req, cs = ent1 e ∧ ((Lit.int .i64 e.1).wf = true ∧ e.2.wf) ∧ e.2.key.length + e.2.val.length + e.2.old.length ≤ 3 * reachBytes := by
 obtain ⟨xs, n, rfl, hx, hl, hxl, hf⟩ := DataW.trod_struct Tryz.underlying59 h
 rw [n59] at hl
 simp only [List.size_toArray, List.length_cons, List.length_nil] at hxl
 match cs, hl, xs, hxl with
 | c0 :: t, ht, [y0, y1], _ =>
  have k0 := field_of hf 0 _ rfl 1 n3
  have k1 := field_of hf 1 _ rfl 12 n39
  change DataW.trod enc Tryz.prog W base sp held n 3 [c0] = some y0 at k0
  change DataW.trod enc Tryz.prog W base sp held n 39 (t.take 12) = some y1 at k1
  rw [List.take_of_length_le (by simp only [List.length_cons] at ht; omega)] at k1
  obtain ⟨a, e0, -, w0⟩ := DataW.trod_int Tryz.underlying3 k0
  have hx1 : x.1 = .agg ([y0, y1].map (·.1)) := congrArg Prod.fst hx
  rw [hx1] at hw
  obtain ⟨r, rfl, w1, w2⟩ := trod_reqW k1 (fits_part Tryz.underlying59 hw 1 (u := 39) rfl rfl)
  cases e0
  exact ⟨(a, r), rfl, ⟨w0, w1⟩, w2⟩
theorem trod_entsW {fuel : Nat} {cs : List Value} {x : DataW H × List MemPlace} (h : DataW.trod enc Tryz.prog W base sp held fuel 42 cs = some x) (hw : Fits 42 x.1) : ∃ (v : Value) (es : List (Int × Req)), cs = [v] ∧ EntsAt W v es ∧ (es.length ≤ maxLen ∧ es.length ≤ 3 * reachBytes) ∧ ∀ e ∈ es, ((Lit.int .i64 e.1).wf = true ∧ e.2.wf) ∧ e.2.key.length + e.2.val.length + e.2.old.length ≤ 3 * reachBytes := by
 rcases DataW.trod_slice Tryz.underlying42 h with ⟨rfl, _⟩ | ⟨a, len, cap, elems, rest, n, _, rfl, hx, hb, hl, hm, hlen, hel, _⟩
 ·exact ⟨_, [], rfl, ⟨none, 0, rfl, .inl rfl⟩, ⟨by unfold maxLen; simp, by simp⟩, fun e he => by cases he⟩
 ·by_cases h0 : len = 0
  ·subst h0
   exact ⟨_, [], rfl, ⟨some a, cap, rfl, .inl rfl⟩, ⟨by unfold maxLen; simp, by simp⟩, fun e he => by cases he⟩
  have hw' := hw
  rw [hx] at hw'
  dsimp only at hw'
  have hlr := fits_len Tryz.underlying42 hw' b59
  rw [List.length_map] at hlr
  have each : ∀ i, i < len → ∃ e : Int × Req, (((Lit.int .i64 e.1).wf = true ∧ e.2.wf) ∧ e.2.key.length + e.2.val.length + e.2.old.length ≤ 3 * reachBytes) ∧ ∀ j u, (ent1 e)[j]? = some u → W.cell? ((a.add (i * 13)).add j) = some u := fun i hi => by
   have h1 := hel i hi
   rw [List.getElem?_eq_getElem (by omega), n59] at h1
   obtain ⟨cs, hcs, h2⟩ := Option.bind_eq_some_iff.1 h1
   obtain ⟨_, hcl, hce⟩ := World.cells?_some hcs
   obtain ⟨e, rfl, w0, w1⟩ := trod_entW h2 (fits_elem Tryz.underlying42 hw' (List.mem_map.2 ⟨elems[i], List.getElem_mem (by omega), rfl⟩))
   refine ⟨e, ⟨w0, w1⟩, fun j u hu => ?_⟩
   have hj := (List.getElem?_eq_some_iff.1 hu).1
   have := hce j (by rw [ent1_len] at hj; omega)
   rw [hu] at this
   simpa [Go.WideShapes.add_plain, Addr.add] using this
  obtain ⟨b, off, spot⟩ := a
  have hspot : spot = none := by
   obtain ⟨e, _, h1⟩ := each 0 (by omega)
   have := h1 0 _ rfl
   simpa [Addr.add] using World.cell?_spot this
  subst hspot
  obtain ⟨f, hf⟩ : ∃ f : Nat → Int × Req, ∀ i, i < len → (((Lit.int .i64 (f i).1).wf = true ∧ (f i).2.wf) ∧ (f i).2.key.length + (f i).2.val.length + (f i).2.old.length ≤ 3 * reachBytes) ∧ ∀ j u, (ent1 (f i))[j]? = some u → W.cell? (((⟨b, off, none⟩ : Addr).add (i * 13)).add j) = some u := by
   refine ⟨fun i => if h : i < len then Classical.choose (each i h) else (0, req0), fun i hi => ?_⟩
   simp only [hi, dif_pos]
   exact Classical.choose_spec (each i hi)
  have hll : ((List.range len).map f).length = len := by simp
  refine ⟨_, (List.range len).map f, rfl, ⟨some ⟨b, off, none⟩, cap, by rw [hll], .inr ⟨b, off, rfl, fun i e he => ?_⟩⟩, ⟨by rw [hll]; omega, by rw [hll]; omega⟩, fun e he => ?_⟩
  ·have hi : i < len := by have := (List.getElem?_eq_some_iff.1 he).1; rwa [hll] at this
   have : f i = e := by simpa [hi] using he
   subst this
   intro j u hu
   have := (hf i hi).2 j u hu
   rw [Addr.add_lit, Addr.add_lit] at this
   exact this
  ·obtain ⟨i, hi, rfl⟩ := List.mem_map.1 he
   exact (hf i (by simpa using hi)).1
theorem trod_numsW {fuel : Nat} {cs : List Value} {x : DataW H × List MemPlace} (h : DataW.trod enc Tryz.prog W base sp held fuel 43 cs = some x) (hw : Fits 43 x.1) : ∃ (v : Value) (ps : List Int), cs = [v] ∧ NumsAt W v ps ∧ (ps.length ≤ maxLen ∧ ps.length ≤ 3 * reachBytes) ∧ ∀ p ∈ ps, (Lit.int .i64 p).wf = true := by
 rcases DataW.trod_slice Tryz.underlying43 h with ⟨rfl, _⟩ | ⟨a, len, cap, elems, rest, n, _, rfl, hx, hb, hl, hm, hlen, hel, _⟩
 ·exact ⟨_, [], rfl, ⟨none, 0, rfl, .inl rfl⟩, ⟨by unfold maxLen; simp, by simp⟩, fun e he => by cases he⟩
 ·by_cases h0 : len = 0
  ·subst h0
   exact ⟨_, [], rfl, ⟨some a, cap, rfl, .inl rfl⟩, ⟨by unfold maxLen; simp, by simp⟩, fun e he => by cases he⟩
  have hw' := hw
  rw [hx] at hw'
  dsimp only at hw'
  have hlr := fits_len Tryz.underlying43 hw' b3
  rw [List.length_map] at hlr
  have each : ∀ i, i < len → ∃ p : Int, (Lit.int .i64 p).wf = true ∧ W.cell? (a.add i) = some (.int .i64 p) := fun i hi => by
   have h1 := hel i hi
   rw [List.getElem?_eq_getElem (by omega), n3, Nat.mul_one] at h1
   obtain ⟨cs, hcs, h2⟩ := Option.bind_eq_some_iff.1 h1
   obtain ⟨_, hcl, hce⟩ := World.cells?_some hcs
   obtain ⟨p, rfl, _, w0⟩ := DataW.trod_int Tryz.underlying3 h2
   refine ⟨p, w0, ?_⟩
   have := hce 0 (by omega)
   simpa [Go.WideShapes.add_plain, Addr.add] using this
  obtain ⟨b, off, spot⟩ := a
  have hspot : spot = none := by
   obtain ⟨e, _, h1⟩ := each 0 (by omega)
   simpa [Addr.add] using World.cell?_spot h1
  subst hspot
  obtain ⟨f, hf⟩ : ∃ f : Nat → Int, ∀ i, i < len → (Lit.int .i64 (f i)).wf = true ∧ W.cell? ((⟨b, off, none⟩ : Addr).add i) = some (.int .i64 (f i)) := by
   refine ⟨fun i => if h : i < len then Classical.choose (each i h) else 0, fun i hi => ?_⟩
   simp only [hi, dif_pos]
   exact Classical.choose_spec (each i hi)
  have hll : ((List.range len).map f).length = len := by simp
  refine ⟨_, (List.range len).map f, rfl, ⟨some ⟨b, off, none⟩, cap, by rw [hll], .inr ⟨b, off, rfl, fun i hi => ?_⟩⟩, ⟨by rw [hll]; omega, by rw [hll]; omega⟩, fun e he => ?_⟩
  ·rw [hll] at hi
   have := (hf i hi).2
   rw [Addr.add_lit] at this
   rw [List.getD_eq_getElem?_getD]
   simpa [hi] using this
  ·obtain ⟨i, hi, rfl⟩ := List.mem_map.1 he
   exact (hf i (by simpa using hi)).1
theorem open_scriptW {r : Reach} {b0 : Nat} {v : Value} {d : DataW H} {ps : List MemPlace} (hval : Value.okWide Tryz.prog W r b0 45 v) (h : DataW.Trod enc Tryz.prog W base sp held 45 v d ps) (hw : Fits 45 d) : ∃ s, ScrAt (3 * reachBytes) W v s := by
 obtain ⟨cs, rfl, hsz⟩ := okWide_struct Tryz.underlying45 hval
 obtain ⟨fuel, hf⟩ := h
 obtain ⟨xs, n, rfl, hx, hl, hxl, hfs⟩ := DataW.trod_struct Tryz.underlying45 hf
 rw [n45] at hsz
 obtain ⟨l⟩ := cs
 simp only [List.size_toArray, List.length_cons, List.length_nil] at hxl
 match l, hsz, xs, hxl with
 | [c0, c1], _, [y0, y1], _ =>
  have k0 := field_of hfs 0 _ rfl 1 n42
  have k1 := field_of hfs 1 _ rfl 1 n43
  change DataW.trod enc Tryz.prog W base sp held n 42 [c0] = some y0 at k0
  change DataW.trod enc Tryz.prog W base sp held n 43 [c1] = some y1 at k1
  have hd : d = .agg ([y0, y1].map (·.1)) := congrArg Prod.fst hx
  rw [hd] at hw
  obtain ⟨v0, es, e0, h1, h2, h3⟩ := trod_entsW k0 (fits_part Tryz.underlying45 hw 0 (u := 42) rfl rfl)
  obtain ⟨v1, qs, e1, g1, g2, g3⟩ := trod_numsW k1 (fits_part Tryz.underlying45 hw 1 (u := 43) rfl rfl)
  cases e0; cases e1
  exact ⟨(es, qs), ⟨_, _, rfl, h1, g1⟩, h2.1, g2.1, h2.2, g2.2, h3, g3⟩
end
end Go.Proofs.YtkbedajbbakihaaGreatDoor
