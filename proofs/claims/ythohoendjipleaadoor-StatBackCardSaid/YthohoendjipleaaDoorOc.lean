/-
  The codes, opened from their reading.
-/
import Derived.Test.YthohoendjipleaaDoorOp
import Derived.ChangeSame
namespace Go.Proofs.YthohoendjipleaaDoor
open Go.RowKit Go.WideShapes Go.ChangeShapes
set_option maxRecDepth 100000
section
variable {H : Type} {enc : TypeId × Value → H} {W : World}
theorem cells67 : Tryd.prog.cellsOf 67 = 2 := by kernel_rfl
theorem cells5' : Tryd.prog.cellsOf 5 = 1 := by kernel_rfl
theorem open_codes {r : Reach} {b0 base : Nat} {v : Value} {d : DataW H} {ps : List MemPlace} (hval : Value.okWide Tryd.prog W r b0 25 v) (h : DataW.Trod enc Tryd.prog W base (fun _ => true) true 25 v d ps) : ∃ l, Codes W v l := by
  obtain ⟨a0, len, cap, rfl⟩ := okWide_slice Tryd.underlying25 hval
  obtain ⟨fuel, hf⟩ := h
  rcases DataW.trod_slice Tryd.underlying25 hf with ⟨hcs, _⟩ | ⟨a, len', cap', elems, rest, n, _, hcs, _, hb, hl, hm, hlen, hel, _⟩
  · simp [Value.cells] at hcs
    obtain ⟨rfl, rfl, rfl⟩ := hcs
    exact ⟨[], .inl ⟨rfl, rfl⟩⟩
  · simp [Value.cells] at hcs
    obtain ⟨rfl, rfl, rfl⟩ := hcs
    by_cases h0 : len = 0
    · subst h0
      exact ⟨[], .inr (.inl ⟨a, cap, rfl, rfl⟩)⟩
    have each : ∀ i, i < len → ∃ z u : Nat, z < 256 ∧ u < 256 ∧ W.cell? ((a.add (i * 2)).add 0) = some (.int .u8 (z : Int)) ∧ W.cell? ((a.add (i * 2)).add 1) = some (.int .u8 (u : Int)) := fun i hi => by
      have h1 := hel i hi
      rw [List.getElem?_eq_getElem (by omega), cells67] at h1
      obtain ⟨cs, hcs, h2⟩ := Option.bind_eq_some_iff.1 h1
      obtain ⟨_, hcl, hce⟩ := World.cells?_some hcs
      obtain ⟨y0, y1, m, _, _, t0, t1⟩ := trod_struct2 Tryd.underlying67 h2
      obtain ⟨z, hz, _, wz⟩ := DataW.trod_int Tryd.underlying5 t0
      obtain ⟨u, hu, _, wu⟩ := DataW.trod_int Tryd.underlying5 t1
      obtain ⟨z0, z1⟩ := u8_in wz
      obtain ⟨u0, u1⟩ := u8_in wu
      simp only [cells5'] at hz hu
      match cs, hcl with
      | [ca, cb], _ =>
        simp at hz hu
        subst hz
        subst hu
        refine ⟨z.toNat, u.toNat, by omega, by omega, ?_, ?_⟩
        · have := hce 0 (by omega)
          rw [Int.toNat_of_nonneg z0]
          simpa using this
        · have := hce 1 (by omega)
          rw [Int.toNat_of_nonneg u0]
          simpa using this
    obtain ⟨b, off, spot⟩ := a
    have hspot : spot = none := by
      obtain ⟨z, u, _, _, h1, _⟩ := each 0 (by omega)
      simpa [Addr.add] using World.cell?_spot h1
    subst hspot
    have hf2 : ∃ f : Nat → Nat × Nat, ∀ i, i < len → (f i).1 < 256 ∧ (f i).2 < 256 ∧ W.cell? (((⟨b, off, none⟩ : Addr).add (i * 2)).add 0) = some (.int .u8 ((f i).1 : Int)) ∧ W.cell? (((⟨b, off, none⟩ : Addr).add (i * 2)).add 1) = some (.int .u8 ((f i).2 : Int)) := by
      refine ⟨fun i => if h : i < len then (Classical.choose (each i h), Classical.choose (Classical.choose_spec (each i h))) else (0, 0), fun i hi => ?_⟩
      simp only [hi, dif_pos]
      exact Classical.choose_spec (Classical.choose_spec (each i hi))
    obtain ⟨f, hf3⟩ := hf2
    have hg : ∀ i, i < len → ((List.range len).map f).getD i (0, 0) = f i := fun i hi => by
      rw [List.getD_eq_getElem?_getD]
      simp [hi]
    have hll : ((List.range len).map f).length = len := by simp
    have hlt : b < W.heap.size := by
      have := World.block_lt_of_cell? W _ (hf3 0 (by omega)).2.2.1
      simpa [Addr.add] using this
    refine ⟨(List.range len).map f, .inr (.inr ⟨b, off, cap, by rw [hll], hlt, by rw [hll]; omega, by rw [hll]; unfold maxLen at hm; omega, fun i hi => ?_⟩)⟩
    rw [hll] at hi
    rw [hg i hi]
    obtain ⟨f1, f2, f3, f4⟩ := hf3 i hi
    simp only [Go.WideShapes.add_plain, Nat.add_zero] at f3 f4
    exact ⟨f1, f2, f3, f4⟩
end
end Go.Proofs.YthohoendjipleaaDoor
