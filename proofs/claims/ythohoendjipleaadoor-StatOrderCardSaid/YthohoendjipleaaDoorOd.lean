/-
  The slices of slices of deeds, opened from their reading.
-/
import Derived.Test.YthohoendjipleaaDoorOp
import Derived.Test.YthohoendjipleaaDoorOq
namespace Go.Proofs.YthohoendjipleaaDoor
open Go.RowKit Go.WideShapes Go.ChangeShapes
set_option maxRecDepth 100000
section
variable {H : Type} {enc : TypeId × Value → H} {W : World}
theorem cells24 : Tryd.prog.cellsOf 24 = 1 := by kernel_rfl
theorem deeds_at {base : Nat} {fuel : Nat} {cs : List Value} {x : DataW H × List MemPlace} (hf : DataW.trod enc Tryd.prog W base (fun _ => true) true fuel 24 cs = some x) : ∃ v l, cs = [v] ∧ Deeds W v l := by
  rcases open_ints Tryd.underlying24 Tryd.underlying36 cells36 hf with ⟨hcs, _⟩ | ⟨a, len, cap, zs, hcs, _, hl, hm, hz, _, hcell, _⟩
  · exact ⟨_, [], hcs, .inl ⟨rfl, rfl⟩⟩
  · simp only [if_true] at hz
    by_cases h0 : len = 0
    · subst h0
      exact ⟨_, [], hcs, .inr (.inl ⟨a, cap, rfl, rfl⟩)⟩
    · obtain ⟨b, off, rfl, hc⟩ := ints_at hcell (by omega)
      have hlt : b < W.heap.size := World.block_lt_of_cell? W _ (hc 0 (by omega))
      refine ⟨_, zs.take len, hcs, .inr (.inr ⟨b, off, cap, ?_, hlt, ?_, ?_, fun i hi => ?_⟩)⟩
      · rw [List.length_take, Nat.min_eq_left (by omega)]
      · rw [List.length_take]; omega
      · rw [List.length_take]; unfold maxLen at hm; omega
      · rw [List.length_take] at hi
        rw [hc i (by omega)]
        simp [show i < len by omega]
theorem open_dd {r : Reach} {b0 base : Nat} {v : Value} {d : DataW H} {ps : List MemPlace} (hval : Value.okWide Tryd.prog W r b0 57 v) (h : DataW.Trod enc Tryd.prog W base (fun _ => true) true 57 v d ps) : ∃ ls, DD W v ls := by
  obtain ⟨a0, len, cap, rfl⟩ := okWide_slice Tryd.underlying57 hval
  obtain ⟨fuel, hf⟩ := h
  rcases DataW.trod_slice Tryd.underlying57 hf with ⟨hcs, _⟩ | ⟨a, len', cap', elems, rest, n, _, hcs, _, hb, hl, hm, hlen, hel, _⟩
  · simp [Value.cells] at hcs
    obtain ⟨rfl, rfl, rfl⟩ := hcs
    exact ⟨[], .inl ⟨rfl, rfl⟩⟩
  · simp [Value.cells] at hcs
    obtain ⟨rfl, rfl, rfl⟩ := hcs
    by_cases h0 : len = 0
    · subst h0
      exact ⟨[], .inr (.inl ⟨a, cap, rfl, rfl⟩)⟩
    have each : ∀ i, i < len → ∃ vi l, W.cell? (a.add i) = some vi ∧ Deeds W vi l := fun i hi => by
      have h1 := hel i hi
      rw [List.getElem?_eq_getElem (by omega), cells24, Nat.mul_one] at h1
      obtain ⟨cs, hcs, h2⟩ := Option.bind_eq_some_iff.1 h1
      obtain ⟨_, hcl, hce⟩ := World.cells?_some hcs
      obtain ⟨vi, l, rfl, hd⟩ := deeds_at h2
      refine ⟨vi, l, ?_, hd⟩
      have := hce 0 (by omega)
      simpa [Go.WideShapes.add_plain, Addr.add] using this
    obtain ⟨b, off, spot⟩ := a
    have hspot : spot = none := by
      obtain ⟨z, u, h1, _⟩ := each 0 (by omega)
      simpa [Addr.add] using World.cell?_spot h1
    subst hspot
    have hf2 : ∃ f : Nat → List Int, ∀ i, i < len → ∃ vi, W.cell? ((⟨b, off, none⟩ : Addr).add i) = some vi ∧ Deeds W vi (f i) := by
      refine ⟨fun i => if h : i < len then Classical.choose (Classical.choose_spec (each i h)) else [], fun i hi => ?_⟩
      simp only [hi, dif_pos]
      exact ⟨_, Classical.choose_spec (Classical.choose_spec (each i hi))⟩
    obtain ⟨f, hf3⟩ := hf2
    have hg : ∀ i, i < len → ((List.range len).map f).getD i [] = f i := fun i hi => by
      rw [List.getD_eq_getElem?_getD]
      simp [hi]
    have hll : ((List.range len).map f).length = len := by simp
    have hlt : b < W.heap.size := by
      obtain ⟨vi, h1, _⟩ := hf3 0 (by omega)
      have := World.block_lt_of_cell? W _ h1
      simpa [Addr.add] using this
    refine ⟨(List.range len).map f, .inr (.inr ⟨b, off, cap, by rw [hll], hlt, by rw [hll]; omega, by rw [hll]; unfold maxLen at hm; omega, fun i hi => ?_⟩)⟩
    rw [hll] at hi
    rw [hg i hi]
    obtain ⟨vi, f1, f2⟩ := hf3 i hi
    simp only [Go.WideShapes.add_plain] at f1
    exact ⟨vi, f1, f2⟩
end
end Go.Proofs.YthohoendjipleaaDoor
