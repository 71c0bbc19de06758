/-
  A cell written into an owned row; the words of a text as cells. Conditions: none.
-/
import Derived.Laws.AppendOwn
import Derived.Laws.Tables
import Derived.OwnWalk
namespace Go.Proofs.YthohoendjipleaaGreatDoor

theorem ownsRow_block {w : World} {base n : Nat} {e : TypeId} {v : Value} {xs : List Value} (h : w.ownsRow base e 1 v n xs) (hn : 0 < n) :
    ∃ g cap cur, v = .slice (some ⟨g, 0, none⟩) n cap ∧ base ≤ g ∧ w.heap[g]? = some (.cells cur e (0, 0)) ∧ n ≤ cap ∧ cap ≤ maxLen ∧ cur.size = cap ∧ cur.toList.take n = xs := by
  rcases h.2 with ⟨_, h0⟩ | ⟨g, cap, cur, e1, e2, e3, e4, e5, e6, e7⟩
  · omega
  · exact ⟨g, cap, cur, e1, e2, e3, e4, e5, by rw [e6, Nat.mul_one], by rw [← e7, Nat.mul_one]⟩
theorem ownsRow_set {w : World} {base n cap g j : Nat} {e : TypeId} {xs : List Value} {u : Value} (h : w.ownsRow base e 1 (.slice (some ⟨g, 0, none⟩) n cap) n xs) (hj : j < n) :
    (w.setCell ⟨g, j, none⟩ u).ownsRow base e 1 (.slice (some ⟨g, 0, none⟩) n cap) n (xs.set j u) := by
  obtain ⟨g', cap', cur, hv, hb, hg, hc, hm, hs, ht⟩ := ownsRow_block h (by omega)
  have e0 := hv
  simp only [Value.slice.injEq, Option.some.injEq, Addr.mk.injEq] at e0
  obtain ⟨⟨rfl, _⟩, _, rfl⟩ := e0
  refine ⟨by rw [List.length_set]; exact h.1, .inr ⟨g, cap, cur.setIfInBounds j u, rfl, hb, ?_, hc, hm, by simp [hs], ?_⟩⟩
  · rw [setCell_eq_setRow w g j cur e (0, 0) u hg]
    exact setRow_heap w g cur _ e (0, 0) hg
  · rw [← ht, Nat.mul_one, Array.toList_setIfInBounds, List.take_set]
theorem ownsRow_cell {w : World} {base n cap g : Nat} {e : TypeId} {xs : List Value} (h : w.ownsRow base e 1 (.slice (some ⟨g, 0, none⟩) n cap) n xs) {j : Nat} {u : Value} (hu : xs[j]? = some u) : w.cell? ⟨g, j, none⟩ = some u := by
  have := h.cells (g := g) rfl j u hu
  have ha : (⟨g, 0, none⟩ : Addr).add j = ⟨g, j, none⟩ := by
    unfold Addr.add
    by_cases hj : j = 0 <;> simp [hj]
  rwa [ha] at this
theorem ownsRow_free {w : World} {base n cap g : Nat} {e : TypeId} {xs : List Value} (h : w.ownsRow base e 1 (.slice (some ⟨g, 0, none⟩) n cap) n xs) (hn : 0 < n) (j : Nat) : w.frozen? ⟨g, j, none⟩ = false := by
  obtain ⟨g', cap', cur, hv, hb, hg, hc, hm, hs, ht⟩ := ownsRow_block h hn
  simp only [Value.slice.injEq, Option.some.injEq, Addr.mk.injEq] at hv
  obtain ⟨⟨rfl, _⟩, _, rfl⟩ := hv
  simp [World.frozen?, hg]
end Go.Proofs.YthohoendjipleaaGreatDoor
