/-
  Package stat: Rank's comparison. Conditions: the loads' parts are from 0 to 2.
-/
import Derived.Test.YthohoendjipleaaDoorV
import Derived.Test.YthohoendjipleaaDoorLs
import Derived.Shelf.SlSortCmp.Insertion1
namespace Go.Proofs.YthohoendjipleaaDoor
open Go.RowKit Go.Sort
set_option linter.unusedSimpArgs false

def cfR (A B : Nat → Nat) (x y : Nat) : Int := if lessL (A y) (B y) (A x) (B x) = true then -1 else if lessL (A x) (B x) (A y) (B y) = true then 1 else 0
set_option maxRecDepth 100000 in
set_option maxHeartbeats 3200000 in
theorem cmp_is (lb G n cap : Nat) (A B : Nat → Nat) (hA : ∀ i, A i ≤ W2) (hB : ∀ i, B i ≤ W2) (x y : Nat) (hx : x < n) (hy : y < n) (W : World) (hb : lb < W.heap.size) (hg : G < W.heap.size)
    (h1 : W.cell? ⟨lb, 0, none⟩ = some (.slice (some ⟨G, 0, none⟩) n cap)) (h2 : ∀ i, i < n → W.cell? ⟨G, i * 11 + 10, none⟩ = some (.complex .f64 (A i) (B i))) :
    Calls Tryd.prog 36 #[.int .i64 x, .int .i64 y, .pointer (some ⟨lb, 0, none⟩)] W fun e w' => e = .returned (.int .i64 (cfR A B x y)) ∧ ∃ q os, w' = grow (W.drewN q) os := by
  have hm := mixed
  have ax := hA x
  have ay := hA y
  have bx := hB x
  have bY := hB y
  have hcx := h2 x hx
  have hcy := h2 y hy
  unfold cfR
  clear hA hB h2
  generalize A x = a at *
  generalize B x = b at *
  generalize A y = a' at *
  generalize B y = b' at *
  have l1 := fun w => Less_is a' b' a b ay bY ax bx w
  have l2 := fun w => Less_is a b a' b' ax bx ay bY w
  generalize lessL a' b' a b = r1 at *
  generalize lessL a b a' b' = r2 at *
  have e1 := cell_grown hb h1
  have e2 := cell_grown hg hcx
  have e3 := cell_grown hg hcy
  have c1 := fun n os => Calls.grown_of ((l1 (grow (W.drewN n) os)).mono (fun e w' h => ⟨h.1, 0, #[], by rw [← h.2, grow_empty]; rfl⟩))
  have L2 := Lib.hid l2
  have hx' : (x : Int) < n := by omega
  have hy' : (y : Int) < n := by omega
  have hx0 : (0 : Int) ≤ x := by omega
  have hy0 : (0 : Int) ≤ y := by omega
  have HH := Lib.hid (And.intro hb (And.intro hg (And.intro h1 (And.intro hcx hcy))))
  clear l1 l2 hcx hcy h1 hb hg
  go_enter Tryd.func36, Tryd.ntmps36
  go_wp2_with fail
  refine wp_region_quiet_grown (by assumption) (by kernel_rfl) ?_
  repeat (quiet_step (first | with_reducible exact c1 _ _))
  with_reducible refine wpQuiet_nil ?_
  intro w3 hw3
  obtain ⟨⟨nq, oq⟩, rfl⟩ := hw3
  clear c1 e1 e2 e3
  cases r1
  · obtain ⟨V, hV⟩ : ∃ V, grow (W.drewN nq) oq = V := ⟨_, rfl⟩
    obtain ⟨hb, hg, h1, hcx, hcy⟩ := HH.out
    have hs : W.heap.size ≤ V.heap.size := by rw [← hV]; simp [grow]
    have h1' : V.cell? ⟨lb, 0, none⟩ = some (.slice (some ⟨G, 0, none⟩) n cap) := by rw [← hV]; exact cell_grown hb h1 nq oq
    have hcx' : V.cell? ⟨G, x * 11 + 10, none⟩ = some (.complex .f64 a b) := by rw [← hV]; exact cell_grown hg hcx nq oq
    have hcy' : V.cell? ⟨G, y * 11 + 10, none⟩ = some (.complex .f64 a' b') := by rw [← hV]; exact cell_grown hg hcy nq oq
    have hbV := Nat.lt_of_lt_of_le hb hs
    have hgV := Nat.lt_of_lt_of_le hg hs
    have e1 := cell_grown hbV h1'
    have e2 := cell_grown hgV hcx'
    have e3 := cell_grown hgV hcy'
    have c1 := fun n os => Calls.grown_of ((L2.out (grow (V.drewN n) os)).mono (fun e w' h => ⟨h.1, 0, #[], by rw [← h.2, grow_empty]; rfl⟩))
    rw [hV]
    have HV := Lib.hid hV
    clear hV h1' hcx' hcy' hb hg h1 hcx hcy hs hbV hgV
    go_wp2_with fail
    refine wp_region_quiet_grown (by assumption) (by kernel_rfl) ?_
    repeat (quiet_step (first | with_reducible exact c1 _ _))
    with_reducible refine wpQuiet_nil ?_
    intro w3 hw3
    obtain ⟨⟨np, op⟩, rfl⟩ := hw3
    clear c1 e1 e2 e3
    have HE := Lib.hid (show ∃ q os, grow (V.drewN np) op = grow (W.drewN q) os from ⟨nq + np, oq ++ op, by rw [← HV.out]; show grow (grow ((W.drewN nq).drewN np) oq) op = _; rw [grow_grow, World.drewN_drewN]⟩)
    cases r2
    · go_wp2_with fail
      go_ret
      exact ⟨rfl, HE.out⟩
    · go_wp2_with fail
      go_ret
      exact ⟨rfl, HE.out⟩
  · go_wp2_with fail
    go_ret
    exact ⟨rfl, nq, oq, rfl⟩
end Go.Proofs.YthohoendjipleaaDoor
