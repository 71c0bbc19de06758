/-
 Texts of this proof, put together (DcZ, RwZ, NwZ, Wq0Z, Wq1Z, Wq2Z, Wq3Z, Wq4Z, BrZ, RsZ): each part's first words say what it holds. Conditions: as each part says.
-/
import Derived.Test.YtkbedajbbakihaaGreatDoorYd
import Derived.Test.YtkbedajbbakihaaGreatDoorQb
import Derived.Test.YtkbedajbbakihaaGreatDoorQb1
import Derived.Test.YtkbedajbbakihaaGreatDoorQk
import Derived.Test.YtkbedajbbakihaaGreatDoorQd
import Derived.Test.YtkbedajbbakihaaGreatDoorXc
import Derived.Test.YtkbedajbbakihaaGreatDoorQg1
import Derived.Deep.WholeRow
/-
 The reference's numbers as texts: Decimal and signed. Conditions: none.
-/
namespace Go.Proofs.YtkbedajbbakihaaGreatDoor
open Go.RowKit Go.Sort Go.Lib
set_option linter.unusedSimpArgs false
set_option linter.unusedVariables false

end Go.Proofs.YtkbedajbbakihaaGreatDoor

/-
 Lists of texts in memory; the reference's join and all. Conditions: the texts are not too long.
-/
namespace Go.Proofs.YtkbedajbbakihaaGreatDoor
open Go.RowKit Go.Sort Go.Lib
set_option linter.unusedSimpArgs false
set_option linter.unusedVariables false

/-- v is a slice over texts -/
def SL (w : World) (v : Value) (ws : List (List UInt8)) : Prop := ∃ ao cap, v = .slice ao ws.length cap ∧ (ws.length = 0 ∨ ∃ X off, ao = some ⟨X, off, none⟩ ∧ ∀ j, j < ws.length → w.cell? ⟨X, off + j, none⟩ = some (.string ⟨(wrd ws j).toArray⟩))
theorem SL.later {w w' : World} {v : Value} {ws : List (List UInt8)} (h : SL w v ws) (hl : Later w w') : SL w' v ws := by
 obtain ⟨ao, cap, h1, h2⟩ := h
 refine ⟨ao, cap, h1, h2.imp id ?_⟩
 rintro ⟨X, off, h3, h4⟩
 exact ⟨X, off, h3, fun j hj => cell_at hl (h4 j hj) (World.block_lt_of_cell? _ _ (h4 j hj))⟩
theorem SL.of_owns {w : World} {base : Nat} {v : Value} {ws : List (List UInt8)} (h : w.ownsRow base 9 1 v ws.length (wsC ws)) : SL w v ws := by
 rcases h.2 with ⟨rfl, h0⟩ | ⟨g, cap, cur, rfl, _, hg, _⟩
 ·exact ⟨none, 0, by rw [h0], .inl h0⟩
 ·refine ⟨_, cap, rfl, .inr ⟨g, 0, rfl, fun j hj => ?_⟩⟩
  have := h.cells (g := g) rfl j _ (wsC_get hj)
  rw [show (⟨g, 0, none⟩ : Addr).add j = ⟨g, j, none⟩ by unfold Addr.add; split <;> simp_all] at this
  rw [Nat.zero_add]
  exact this
end Go.Proofs.YtkbedajbbakihaaGreatDoor

/-
 The reference's names and rights. Conditions: none.
-/
namespace Go.Proofs.YtkbedajbbakihaaGreatDoor
open Go.RowKit Go.Sort Go.Lib
set_option linter.unusedSimpArgs false
set_option linter.unusedVariables false

def namesL : List (List UInt8) := [[], nameN 1, nameN 2, nameN 3, nameN 4, nameN 5, nameN 6, nameN 7, nameN 8, nameN 9, nameN 10]
theorem refNames_is (w : World) : Calls Tryz.prog 64 #[] w fun e w' => e = .returned (.slice (some ⟨w.heap.size, 0, none⟩) 11 11) ∧ w' = w.alloc (.cells (wsC namesL).toArray 9) := by
 go_enter Tryz.func64, Tryz.ntmps64
 go_wp2_with fail
 go_ret
 exact ⟨rfl, rfl⟩
end Go.Proofs.YtkbedajbbakihaaGreatDoor

/-
 The reference's words of a request, walked. Conditions: the request's fields fit.
-/
namespace Go.Proofs.YtkbedajbbakihaaGreatDoor
open Go.RowKit Go.Sort Go.Lib
set_option linter.unusedSimpArgs false
set_option linter.unusedVariables false

theorem SL.new (W : World) (ws : List (List UInt8)) (n : Nat) (hn : n = ws.length) (A : Array Value) (hA : A = (wsC ws).toArray) : SL (W.alloc (.cells A 9)) (.slice (some ⟨W.heap.size, 0, none⟩) n n) ws := by
 subst hn; subst hA
 refine ⟨_, _, rfl, .inr ⟨W.heap.size, 0, rfl, fun j hj => ?_⟩⟩
 rw [Nat.zero_add, World.cell?_alloc_new]
 show (wsC ws).toArray[j]? = _
 rw [List.getElem?_toArray]
 exact wsC_get hj
end Go.Proofs.YtkbedajbbakihaaGreatDoor

/-
 The reference's words of a request, walked (more deeds). Conditions: the request's fields fit.
-/
namespace Go.Proofs.YtkbedajbbakihaaGreatDoor
open Go.RowKit Go.Sort Go.Lib
set_option linter.unusedSimpArgs false
set_option linter.unusedVariables false
end Go.Proofs.YtkbedajbbakihaaGreatDoor

/-
 The reference's words of a request, walked (more deeds). Conditions: the request's fields fit.
-/
namespace Go.Proofs.YtkbedajbbakihaaGreatDoor
open Go.RowKit Go.Sort Go.Lib
set_option linter.unusedSimpArgs false
set_option linter.unusedVariables false
end Go.Proofs.YtkbedajbbakihaaGreatDoor

/-
 The reference's words of a request, walked (more deeds). Conditions: the request's fields fit.
-/
namespace Go.Proofs.YtkbedajbbakihaaGreatDoor
open Go.RowKit Go.Sort Go.Lib
set_option linter.unusedSimpArgs false
set_option linter.unusedVariables false
end Go.Proofs.YtkbedajbbakihaaGreatDoor

/-
 The reference's words of a request, walked (more deeds). Conditions: the request's fields fit.
-/
namespace Go.Proofs.YtkbedajbbakihaaGreatDoor
open Go.RowKit Go.Sort Go.Lib
set_option linter.unusedSimpArgs false
set_option linter.unusedVariables false
end Go.Proofs.YtkbedajbbakihaaGreatDoor

/-
 The reference's bare, walked. Conditions: the deed is one of the ten.
-/
namespace Go.Proofs.YtkbedajbbakihaaGreatDoor
open Go.RowKit
set_option linter.unusedSimpArgs false
set_option linter.unusedVariables false
end Go.Proofs.YtkbedajbbakihaaGreatDoor

/-
 The reference's ShowRequest, walked. Conditions: the request's fields fit.
-/
namespace Go.Proofs.YtkbedajbbakihaaGreatDoor
open Go.RowKit Go.Sort Go.Lib
set_option linter.unusedSimpArgs false
set_option linter.unusedVariables false

theorem names_at (n : Nat) (h : 1 ≤ n ∧ n ≤ 10) : (wsC namesL).toArray[n]? = some (.string ⟨(nameN n).toArray⟩) := by
 rcases ten_cases h with rfl | rfl | rfl | rfl | rfl | rfl | rfl | rfl | rfl | rfl <;> rfl
end Go.Proofs.YtkbedajbbakihaaGreatDoor
