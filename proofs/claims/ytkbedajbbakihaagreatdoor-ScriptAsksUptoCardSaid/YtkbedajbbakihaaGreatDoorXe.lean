/-
  Texts of this proof, put together (OsZ): each part's first words say what it holds. Conditions: as each part says.
-/
import Derived.Test.YtkbedajbbakihaaGreatDoorQz
import Derived.Test.YtkbedajbbakihaaGreatDoorXd
/-
  A script as an argument, opened from its reading. Conditions: none.
-/
namespace Go.Proofs.YtkbedajbbakihaaGreatDoor
open Go.RowKit Go.WideShapes Go.ChangeShapes
set_option linter.unusedSimpArgs false
set_option linter.unusedVariables false
set_option maxRecDepth 100000
section
variable {H : Type} {enc : TypeId × Value → H} {W : World} {base : Nat} {sp : Nat → Bool} {held : Bool}
theorem n3 : Tryz.prog.cellsOf 3 = 1 := by kernel_rfl
theorem n9 : Tryz.prog.cellsOf 9 = 1 := by kernel_rfl
theorem n30 : Tryz.prog.cellsOf 30 = 1 := by kernel_rfl
theorem n31 : Tryz.prog.cellsOf 31 = 1 := by kernel_rfl
theorem n32 : Tryz.prog.cellsOf 32 = 1 := by kernel_rfl
theorem n34 : Tryz.prog.cellsOf 34 = 3 := by kernel_rfl
theorem n35 : Tryz.prog.cellsOf 35 = 1 := by kernel_rfl
theorem n37 : Tryz.prog.cellsOf 37 = 2 := by kernel_rfl
theorem n39 : Tryz.prog.cellsOf 39 = 12 := by kernel_rfl
theorem field_at {fs : Array Field} {n : Nat} {cs : List Value} {xs : List (DataW H × List MemPlace)} (hf : ∀ (i : Nat) (f : Field), fs[i]? = some f → DataW.trod enc Tryz.prog W base sp held n f.type ((cs.drop f.offset).take (Tryz.prog.cellsOf f.type)) = xs[i]?) (hxl : xs.length = fs.size)
    (i : Nat) (f : Field) (hi : fs[i]? = some f) (k : Nat) (hk : Tryz.prog.cellsOf f.type = k) : ∃ y, DataW.trod enc Tryz.prog W base sp held n f.type ((cs.drop f.offset).take k) = some y := by
  have h1 := hf i f hi
  have h2 : i < xs.length := by rw [hxl]; exact (Array.getElem?_eq_some_iff.1 hi).1
  rw [List.getElem?_eq_getElem h2, hk] at h1
  exact ⟨_, h1⟩
theorem field_of {fs : Array Field} {n : Nat} {cs : List Value} {xs : List (DataW H × List MemPlace)} (hf : ∀ (i : Nat) (f : Field), fs[i]? = some f → DataW.trod enc Tryz.prog W base sp held n f.type ((cs.drop f.offset).take (Tryz.prog.cellsOf f.type)) = xs[i]?)
    (i : Nat) (f : Field) (hi : fs[i]? = some f) (k : Nat) (hk : Tryz.prog.cellsOf f.type = k) : DataW.trod enc Tryz.prog W base sp held n f.type ((cs.drop f.offset).take k) = xs[i]? := by
  have h1 := hf i f hi
  rwa [hk] at h1
theorem bulk_agg (l : List (DataW H)) : Rows.uptoBulk (.agg l) = Rows.uptoBulkAll l + 1 := by simp [Rows.uptoBulk]
theorem trod_hdl {fuel : Nat} {cs : List Value} {x : DataW H × List MemPlace} (h : DataW.trod enc Tryz.prog W base sp held fuel 34 cs = some x) : ∃ a b c : Int, cs = [.int .i64 a, .int .u32 b, .int .u8 c] ∧ (Lit.int .i64 a).wf = true ∧ (Lit.int .u32 b).wf = true ∧ (Lit.int .u8 c).wf = true := by
  obtain ⟨xs, n, rfl, -, hl, hxl, hf⟩ := DataW.trod_struct Tryz.underlying34 h
  rw [n34] at hl
  match cs, hl with
  | [c0, c1, c2], _ =>
    obtain ⟨y0, k0⟩ := field_at hf hxl 0 _ rfl 1 n3
    obtain ⟨y1, k1⟩ := field_at hf hxl 1 _ rfl 1 n31
    obtain ⟨y2, k2⟩ := field_at hf hxl 2 _ rfl 1 n32
    change DataW.trod enc Tryz.prog W base sp held n 3 [c0] = some y0 at k0
    change DataW.trod enc Tryz.prog W base sp held n 31 [c1] = some y1 at k1
    change DataW.trod enc Tryz.prog W base sp held n 32 [c2] = some y2 at k2
    obtain ⟨a, e0, -, w0⟩ := DataW.trod_int Tryz.underlying3 k0
    obtain ⟨b, e1, -, w1⟩ := DataW.trod_int Tryz.underlying31 k1
    obtain ⟨c, e2, -, w2⟩ := DataW.trod_int Tryz.underlying32 k2
    cases e0; cases e1; cases e2
    exact ⟨a, b, c, rfl, w0, w1, w2⟩
theorem trod_quo {fuel : Nat} {cs : List Value} {x : DataW H × List MemPlace} (h : DataW.trod enc Tryz.prog W base sp held fuel 37 cs = some x) : ∃ a b : Int, cs = [.int .u64 a, .int .u64 b] ∧ (Lit.int .u64 a).wf = true ∧ (Lit.int .u64 b).wf = true := by
  obtain ⟨xs, n, rfl, -, hl, hxl, hf⟩ := DataW.trod_struct Tryz.underlying37 h
  rw [n37] at hl
  match cs, hl with
  | [c0, c1], _ =>
    obtain ⟨y0, k0⟩ := field_at hf hxl 0 _ rfl 1 n35
    obtain ⟨y1, k1⟩ := field_at hf hxl 1 _ rfl 1 n35
    change DataW.trod enc Tryz.prog W base sp held n 35 [c0] = some y0 at k0
    change DataW.trod enc Tryz.prog W base sp held n 35 [c1] = some y1 at k1
    obtain ⟨a, e0, -, w0⟩ := DataW.trod_int Tryz.underlying35 k0
    obtain ⟨b, e1, -, w1⟩ := DataW.trod_int Tryz.underlying35 k1
    cases e0; cases e1
    exact ⟨a, b, rfl, w0, w1⟩
theorem max_le (s : ByteArray) (h : s.size ≤ maxLen) : s.data.toList.length ≤ 9223372036854775807 := by
  rw [← Lib.size_eq]
  unfold maxLen at h
  omega
theorem trod_req {fuel : Nat} {cs : List Value} {x : DataW H × List MemPlace} (h : DataW.trod enc Tryz.prog W base sp held fuel 39 cs = some x) : ∃ r : Req, cs = (reqA r).toList ∧ r.wf ∧ r.key.length + r.val.length + r.old.length ≤ Rows.uptoBulk x.1 := by
  obtain ⟨xs, n, rfl, hx, hl, hxl, hf⟩ := DataW.trod_struct Tryz.underlying39 h
  rw [n39] at hl
  simp only [List.size_toArray, List.length_cons, List.length_nil] at hxl
  match cs, hl, xs, hxl with
  | [c0, c1, c2, c3, c4, c5, c6, c7, c8, c9, c10, c11], _, [y0, y1, y2, y3, y4, y5, y6, y7, y8], _ =>
    have k0 := field_of hf 0 _ rfl 1 n30
    have k1 := field_of hf 1 _ rfl 3 n34
    have k2 := field_of hf 2 _ rfl 1 n9
    have k3 := field_of hf 3 _ rfl 1 n9
    have k4 := field_of hf 4 _ rfl 1 n9
    have k5 := field_of hf 5 _ rfl 1 n3
    have k6 := field_of hf 6 _ rfl 1 n3
    have k7 := field_of hf 7 _ rfl 2 n37
    have k8 := field_of hf 8 _ rfl 1 n32
    change DataW.trod enc Tryz.prog W base sp held n 30 [c0] = some y0 at k0
    change DataW.trod enc Tryz.prog W base sp held n 34 [c1, c2, c3] = some y1 at k1
    change DataW.trod enc Tryz.prog W base sp held n 9 [c4] = some y2 at k2
    change DataW.trod enc Tryz.prog W base sp held n 9 [c5] = some y3 at k3
    change DataW.trod enc Tryz.prog W base sp held n 9 [c6] = some y4 at k4
    change DataW.trod enc Tryz.prog W base sp held n 3 [c7] = some y5 at k5
    change DataW.trod enc Tryz.prog W base sp held n 3 [c8] = some y6 at k6
    change DataW.trod enc Tryz.prog W base sp held n 37 [c9, c10] = some y7 at k7
    change DataW.trod enc Tryz.prog W base sp held n 32 [c11] = some y8 at k8
    obtain ⟨d, e0, -, w0⟩ := DataW.trod_int Tryz.underlying30 k0
    obtain ⟨ht, hg, hr, e1, w1, w1', w1''⟩ := trod_hdl k1
    obtain ⟨K, e2, z2, w2⟩ := DataW.trod_string Tryz.underlying9 k2
    obtain ⟨V, e3, z3, w3⟩ := DataW.trod_string Tryz.underlying9 k3
    obtain ⟨O, e4, z4, w4⟩ := DataW.trod_string Tryz.underlying9 k4
    obtain ⟨l, e5, -, w5⟩ := DataW.trod_int Tryz.underlying3 k5
    obtain ⟨tn, e6, -, w6⟩ := DataW.trod_int Tryz.underlying3 k6
    obtain ⟨qk, qb, e7, w7, w7'⟩ := trod_quo k7
    obtain ⟨rt, e8, -, w8⟩ := DataW.trod_int Tryz.underlying32 k8
    cases e0; cases e1; cases e2; cases e3; cases e4; cases e5; cases e6; cases e7; cases e8
    refine ⟨⟨d, ht, hg, hr, K.data.toList, V.data.toList, O.data.toList, l, tn, qk, qb, rt⟩, rfl, ⟨w0, w1, w1', w1'', w5, w6, w7, w7', w8, max_le K w2, max_le V w3, max_le O w4⟩, ?_⟩
    subst hx z2 z3 z4
    dsimp only
    rw [bulk_agg]
    simp only [List.map_cons, List.map_nil, bulk_cons, bulk_str]
    omega
theorem trod_kept {W' : World} {t : TypeId} {v : Value} {d : DataW H} {ps : List MemPlace} (hr : Tryz.prog.readableRec t = true) (hrow : t < Tryz.prog.types.size) (h : DataW.Trod enc Tryz.prog W 0 (fun _ => true) true t v d ps) (hb : Later W W') (hlt : ∀ x ∈ ps, x.block < W.heap.size) {sp : Nat → Bool} (hsp : ∀ x ∈ ps, sp x.block = true) :
    DataW.Trod enc Tryz.prog W' 0 sp true t v d ps :=
  WideElems.Trod_stays (show laidOutB Tryz.prog = true by kernel_rfl) hr hrow h (fun x hx => Below.same hb (hlt x hx)) hsp
end
end Go.Proofs.YtkbedajbbakihaaGreatDoor
