/-
  Package stat: the pointers to all numbers of a Stat. Conditions: none.
-/
import Derived.Test.YthohoendjipleaaGreatDoorR2
import Derived.Test.YthohoendjipleaaGreatDoorM
import Derived.Deep.RegionLawGrows
namespace Go.Proofs.YthohoendjipleaaGreatDoor
open Go.RowKit
set_option linter.unusedSimpArgs false

theorem info73 : (Tryz.prog.info? 63).map (fun i => (i.zero, i.size, i.bytes)) = some (some (.pointer none), 1, 8) := by kernel_rfl
/-- the pointers to the numbers -/
def FldPost (S : Nat) (w : World) (e : Ending) (w' : World) : Prop :=
  ∃ C cap, w.heap.size ≤ C ∧ C < w'.heap.size ∧ e = .returned (.slice (some ⟨C, 0, none⟩) 10 cap) ∧ Later w w' ∧ (∀ j, j < 10 → w'.cell? ⟨C, j, none⟩ = some (.pointer (some ⟨S, j, none⟩)))
theorem fldPost_mk {S : Nat} {w V w2 : World} {v : Value} (hs : w.heap.size ≤ V.heap.size) (hown : w2.ownsRow V.heap.size 63 1 v (2 + 8) ([.pointer (some ⟨S, 0, none⟩), .pointer (some ⟨S, 1, none⟩)] ++ [.pointer (some ⟨S, 2, none⟩), .pointer (some ⟨S, 3, none⟩), .pointer (some ⟨S, 4, none⟩), .pointer (some ⟨S, 5, none⟩), .pointer (some ⟨S, 6, none⟩), .pointer (some ⟨S, 7, none⟩), .pointer (some ⟨S, 8, none⟩), .pointer (some ⟨S, 9, none⟩)]))
    (hg : V.grownBy w2 none) (hl : Later w V) : FldPost S w (.returned v) w2 := by
  have hL2 : Later w w2 := Below.grown hl hg hs (fun k hk => by cases hk)
  rcases hown.2 with ⟨_, h0⟩ | ⟨g, cap, cur, hv, hge, _⟩
  · cases h0
  · subst hv
    have hlt := (hown.lt g rfl).2
    refine ⟨g, cap, by omega, hlt, rfl, hL2, fun j hj => ?_⟩
    have := hown.cells (g := g) rfl j (.pointer (some ⟨S, j, none⟩)) (by
      have : j = 0 ∨ j = 1 ∨ j = 2 ∨ j = 3 ∨ j = 4 ∨ j = 5 ∨ j = 6 ∨ j = 7 ∨ j = 8 ∨ j = 9 := by omega
      rcases this with rfl | rfl | rfl | rfl | rfl | rfl | rfl | rfl | rfl | rfl <;> rfl)
    rwa [addr_add] at this
set_option maxRecDepth 100000 in
set_option maxHeartbeats 4000000 in
theorem fields_is (S : Nat) (w : World) : Calls Tryz.prog 32 #[.pointer (some ⟨S, 0, none⟩)] w (FldPost S w) := by
  obtain ⟨i0, hi0, hiz, his, hib⟩ := info_parts info73
  go_enter Tryz.func32, Tryz.ntmps32
  go_wp2_with fail
  refine wp_region_noPanic ?_
  refine wp_region_held_drew (S := fun w' => Later w w') (by kernel_rfl) (Later.refl w).drew (fun hHeld => ?_)
  refine wpAnyH_take (i := 0) (v := ?_) rfl (by kernel_rfl) (by kernel_rfl) (by kernel_rfl) (fun _ _ _ h => h) (Or.inl ⟨by rfl, ?_⟩) (by assumption) ?_
  rotate_left
  · (intro w hSw; (try dsimp only at hSw); go_simp)
    all_goals with_reducible rfl
  try simp only [Act.put, List.setIfInBounds_toArray, List.set_cons_zero, List.set_cons_succ, List.getElem_toArray, List.getElem_cons_zero, List.getElem_cons_succ]
  refine wpAnyH_take (i := 1) (v := ?_) rfl (by kernel_rfl) (by kernel_rfl) (by kernel_rfl) (fun _ _ _ h => h) (Or.inl ⟨by rfl, ?_⟩) (by assumption) ?_
  rotate_left
  · (intro w hSw; (try dsimp only at hSw); go_simp)
    all_goals with_reducible rfl
  try simp only [Act.put, List.setIfInBounds_toArray, List.set_cons_zero, List.set_cons_succ, List.getElem_toArray, List.getElem_cons_zero, List.getElem_cons_succ]
  refine wpAnyH_take (i := 2) (v := ?_) rfl (by kernel_rfl) (by kernel_rfl) (by kernel_rfl) (fun _ _ _ h => h) (Or.inl ⟨by rfl, ?_⟩) (by assumption) ?_
  rotate_left
  · (intro w hSw; (try dsimp only at hSw); go_simp)
    all_goals with_reducible rfl
  try simp only [Act.put, List.setIfInBounds_toArray, List.set_cons_zero, List.set_cons_succ, List.getElem_toArray, List.getElem_cons_zero, List.getElem_cons_succ]
  refine wpAnyH_take (i := 3) (v := ?_) rfl (by kernel_rfl) (by kernel_rfl) (by kernel_rfl) (fun _ _ _ h => h) (Or.inl ⟨by rfl, ?_⟩) (by assumption) ?_
  rotate_left
  · (intro w hSw; (try dsimp only at hSw); go_simp)
    all_goals with_reducible rfl
  try simp only [Act.put, List.setIfInBounds_toArray, List.set_cons_zero, List.set_cons_succ, List.getElem_toArray, List.getElem_cons_zero, List.getElem_cons_succ]
  refine wpAnyH_take (i := 4) (v := ?_) rfl (by kernel_rfl) (by kernel_rfl) (by kernel_rfl) (fun _ _ _ h => h) (Or.inl ⟨by rfl, ?_⟩) (by assumption) ?_
  rotate_left
  · (intro w hSw; (try dsimp only at hSw); go_simp)
    all_goals with_reducible rfl
  try simp only [Act.put, List.setIfInBounds_toArray, List.set_cons_zero, List.set_cons_succ, List.getElem_toArray, List.getElem_cons_zero, List.getElem_cons_succ]
  refine wpAnyH_take (i := 5) (v := ?_) rfl (by kernel_rfl) (by kernel_rfl) (by kernel_rfl) (fun _ _ _ h => h) (Or.inl ⟨by rfl, ?_⟩) (by assumption) ?_
  rotate_left
  · (intro w hSw; (try dsimp only at hSw); go_simp)
    all_goals with_reducible rfl
  try simp only [Act.put, List.setIfInBounds_toArray, List.set_cons_zero, List.set_cons_succ, List.getElem_toArray, List.getElem_cons_zero, List.getElem_cons_succ]
  refine wpAnyH_take (i := 7) (v := ?_) rfl (by kernel_rfl) (by kernel_rfl) (by kernel_rfl) (fun _ _ _ h => h) (Or.inl ⟨by rfl, ?_⟩) (by assumption) ?_
  rotate_left
  · (intro w hSw; (try dsimp only at hSw); go_simp)
    all_goals with_reducible rfl
  try simp only [Act.put, List.setIfInBounds_toArray, List.set_cons_zero, List.set_cons_succ, List.getElem_toArray, List.getElem_cons_zero, List.getElem_cons_succ]
  refine wpAnyH_ready (rs := [6, 8]) (by kernel_rfl) (by simp) ?_
  refine AllReadyH.cons (i := 6) rfl (fun K hK => ?_) ?_
  · try simp only [List.getElem_toArray, List.getElem_cons_zero, List.getElem_cons_succ]
    go_simp
    refine hK.out _ _ (by first | exact ((Later.refl w).drew.alloc _) | exact ((Later.refl w).alloc _).drew | exact (HL1.alloc _)) (fun hHeld => ?_)
    clear hK K
    try simp only [Act.put, List.setIfInBounds_toArray, List.set_cons_zero, List.set_cons_succ, List.getElem_toArray, List.getElem_cons_zero, List.getElem_cons_succ]
    refine wpAnyH_ready (rs := [8]) (by kernel_rfl) (by simp) ?_
    refine AllReadyH.cons (i := 8) rfl (fun K hK => ?_) ?_
    · try simp only [List.getElem_toArray, List.getElem_cons_zero, List.getElem_cons_succ]
      go_simp
      refine (counters_is S _).mono ?_
      rintro e w1 hpost
      obtain ⟨C, hC1, hC2, rfl, hb1, hC⟩ := hpost
      have HL1 : Later w w1 := Later.trans (by first | exact ((Later.refl w).drew.alloc _) | exact ((Later.refl w).alloc _).drew) hb1
      try simp only []
      refine hK.out _ _ HL1 (fun hHeld => ?_)
      clear hK K
      try simp only [Act.put, List.setIfInBounds_toArray, List.set_cons_zero, List.set_cons_succ, List.getElem_toArray, List.getElem_cons_zero, List.getElem_cons_succ]
      have d0 : w1.cell? ⟨w.heap.size, 0, none⟩ = some (.pointer (some ⟨S, 0, none⟩)) := cell_at hb1 (by first | (rw [World.cell?_alloc_new]; rfl) | go_cell) (by simp)
      have d1 : w1.cell? ⟨w.heap.size, 1, none⟩ = some (.pointer (some ⟨S, 1, none⟩)) := cell_at hb1 (by first | (rw [World.cell?_alloc_new]; rfl) | go_cell) (by simp)
      have dC := hC
      have HLB := HL1
      refine wpAnyH_ready (rs := [9]) (by kernel_rfl) (by simp) ?_
      refine AllReadyH.cons (i := 9) rfl (fun K hK => ?_) ?_
      · try simp only [List.getElem_toArray, List.getElem_cons_zero, List.getElem_cons_succ]
        refine step_append_grows (a := ⟨_, _⟩) rfl (.tmp 9) (.tmp 11) 60 rfl 63 i0 _ 1 8 Tryz.underlying60 hi0 hiz his hib rfl (by decide) (some ⟨w.heap.size, 0, none⟩) 2 2 [.pointer (some ⟨S, 0, none⟩), .pointer (some ⟨S, 1, none⟩)] (by rfl) (by simp) rfl ?_ ⟨C, 0, none⟩ 8 8 [.pointer (some ⟨S, 2, none⟩), .pointer (some ⟨S, 3, none⟩), .pointer (some ⟨S, 4, none⟩), .pointer (some ⟨S, 5, none⟩), .pointer (some ⟨S, 6, none⟩), .pointer (some ⟨S, 7, none⟩), .pointer (some ⟨S, 8, none⟩), .pointer (some ⟨S, 9, none⟩)] (by rfl) rfl ?_ (by simp [Value.oneCell']) (by decide) (by decide) (by decide) ?_
        · intro b hb j u hj
          injection hb with hb
          subst hb
          rw [addr_add]
          match j, hj with
          | 0, hj => cases hj; exact d0
          | 1, hj => cases hj; exact d1
        · intro j u hj
          rw [addr_add]
          match j, hj with
          | 0, hj => cases hj; exact dC 0 (by omega)
          | 1, hj => cases hj; exact dC 1 (by omega)
          | 2, hj => cases hj; exact dC 2 (by omega)
          | 3, hj => cases hj; exact dC 3 (by omega)
          | 4, hj => cases hj; exact dC 4 (by omega)
          | 5, hj => cases hj; exact dC 5 (by omega)
          | 6, hj => cases hj; exact dC 6 (by omega)
          | 7, hj => cases hj; exact dC 7 (by omega)
        intro v' w2 hown hgrow
        have hB0 := HLB.size
        have hL2 : Later w w2 := Below.grown HLB hgrow hB0 (fun k hk => by cases hk)
        refine hK.out _ _ hL2 (fun hHeld => ?_)
        clear hK K
        try simp only [Act.put, List.setIfInBounds_toArray, List.set_cons_zero, List.set_cons_succ, List.getElem_toArray, List.getElem_cons_zero, List.getElem_cons_succ]
        refine wpAnyH_take (i := 10) (v := ?_) rfl (by kernel_rfl) (by kernel_rfl) (by kernel_rfl) (fun _ _ _ h => h) (Or.inl ⟨by rfl, ?_⟩) (by assumption) ?_
        rotate_left
        · (intro w hSw; (try dsimp only at hSw); go_simp)
          all_goals with_reducible rfl
        try simp only [Act.put, List.setIfInBounds_toArray, List.set_cons_zero, List.set_cons_succ, List.getElem_toArray, List.getElem_cons_zero, List.getElem_cons_succ]
        refine wpAnyH_done (by kernel_rfl) ?_ _
        refine NoPanic.normal ?_
        go_wp2_with fail
        go_ret
        exact fldPost_mk hB0 hown hgrow HLB
      exact AllReadyH.nil
    exact AllReadyH.nil
  refine AllReadyH.cons (i := 8) rfl (fun K hK => ?_) ?_
  · try simp only [List.getElem_toArray, List.getElem_cons_zero, List.getElem_cons_succ]
    go_simp
    refine (counters_is S _).mono ?_
    rintro e w1 hpost
    obtain ⟨C, hC1, hC2, rfl, hb1, hC⟩ := hpost
    have HL1 : Later w w1 := (Later.refl w).drew.trans hb1
    try simp only []
    refine hK.out _ _ HL1 (fun hHeld => ?_)
    clear hK K
    try simp only [Act.put, List.setIfInBounds_toArray, List.set_cons_zero, List.set_cons_succ, List.getElem_toArray, List.getElem_cons_zero, List.getElem_cons_succ]
    refine wpAnyH_ready (rs := [6]) (by kernel_rfl) (by simp) ?_
    refine AllReadyH.cons (i := 6) rfl (fun K hK => ?_) ?_
    · try simp only [List.getElem_toArray, List.getElem_cons_zero, List.getElem_cons_succ]
      go_simp
      refine hK.out _ _ (by first | exact ((Later.refl w).drew.alloc _) | exact ((Later.refl w).alloc _).drew | exact (HL1.alloc _)) (fun hHeld => ?_)
      clear hK K
      try simp only [Act.put, List.setIfInBounds_toArray, List.set_cons_zero, List.set_cons_succ, List.getElem_toArray, List.getElem_cons_zero, List.getElem_cons_succ]
      have d0 : (w1.alloc (Obj.cells #[.pointer (some ⟨S, 0, none⟩), .pointer (some ⟨S, 1, none⟩)] 63)).cell? ⟨w1.heap.size, 0, none⟩ = some (.pointer (some ⟨S, 0, none⟩)) := by rw [World.cell?_alloc_new]; rfl
      have d1 : (w1.alloc (Obj.cells #[.pointer (some ⟨S, 0, none⟩), .pointer (some ⟨S, 1, none⟩)] 63)).cell? ⟨w1.heap.size, 1, none⟩ = some (.pointer (some ⟨S, 1, none⟩)) := by rw [World.cell?_alloc_new]; rfl
      have dC := fun j hj => cell_at ((Later.refl w1).alloc (Obj.cells #[.pointer (some ⟨S, 0, none⟩), .pointer (some ⟨S, 1, none⟩)] 63)) (hC j hj) hC2
      have HLB := HL1.alloc (Obj.cells #[.pointer (some ⟨S, 0, none⟩), .pointer (some ⟨S, 1, none⟩)] 63)
      refine wpAnyH_ready (rs := [9]) (by kernel_rfl) (by simp) ?_
      refine AllReadyH.cons (i := 9) rfl (fun K hK => ?_) ?_
      · try simp only [List.getElem_toArray, List.getElem_cons_zero, List.getElem_cons_succ]
        refine step_append_grows (a := ⟨_, _⟩) rfl (.tmp 9) (.tmp 11) 60 rfl 63 i0 _ 1 8 Tryz.underlying60 hi0 hiz his hib rfl (by decide) (some ⟨w1.heap.size, 0, none⟩) 2 2 [.pointer (some ⟨S, 0, none⟩), .pointer (some ⟨S, 1, none⟩)] (by rfl) (by simp) rfl ?_ ⟨C, 0, none⟩ 8 8 [.pointer (some ⟨S, 2, none⟩), .pointer (some ⟨S, 3, none⟩), .pointer (some ⟨S, 4, none⟩), .pointer (some ⟨S, 5, none⟩), .pointer (some ⟨S, 6, none⟩), .pointer (some ⟨S, 7, none⟩), .pointer (some ⟨S, 8, none⟩), .pointer (some ⟨S, 9, none⟩)] (by rfl) rfl ?_ (by simp [Value.oneCell']) (by decide) (by decide) (by decide) ?_
        · intro b hb j u hj
          injection hb with hb
          subst hb
          rw [addr_add]
          match j, hj with
          | 0, hj => cases hj; exact d0
          | 1, hj => cases hj; exact d1
        · intro j u hj
          rw [addr_add]
          match j, hj with
          | 0, hj => cases hj; exact dC 0 (by omega)
          | 1, hj => cases hj; exact dC 1 (by omega)
          | 2, hj => cases hj; exact dC 2 (by omega)
          | 3, hj => cases hj; exact dC 3 (by omega)
          | 4, hj => cases hj; exact dC 4 (by omega)
          | 5, hj => cases hj; exact dC 5 (by omega)
          | 6, hj => cases hj; exact dC 6 (by omega)
          | 7, hj => cases hj; exact dC 7 (by omega)
        intro v' w2 hown hgrow
        have hB0 := HLB.size
        have hL2 : Later w w2 := Below.grown HLB hgrow hB0 (fun k hk => by cases hk)
        refine hK.out _ _ hL2 (fun hHeld => ?_)
        clear hK K
        try simp only [Act.put, List.setIfInBounds_toArray, List.set_cons_zero, List.set_cons_succ, List.getElem_toArray, List.getElem_cons_zero, List.getElem_cons_succ]
        refine wpAnyH_take (i := 10) (v := ?_) rfl (by kernel_rfl) (by kernel_rfl) (by kernel_rfl) (fun _ _ _ h => h) (Or.inl ⟨by rfl, ?_⟩) (by assumption) ?_
        rotate_left
        · (intro w hSw; (try dsimp only at hSw); go_simp)
          all_goals with_reducible rfl
        try simp only [Act.put, List.setIfInBounds_toArray, List.set_cons_zero, List.set_cons_succ, List.getElem_toArray, List.getElem_cons_zero, List.getElem_cons_succ]
        refine wpAnyH_done (by kernel_rfl) ?_ _
        refine NoPanic.normal ?_
        go_wp2_with fail
        go_ret
        exact fldPost_mk hB0 hown hgrow HLB
      exact AllReadyH.nil
    exact AllReadyH.nil
  exact AllReadyH.nil
end Go.Proofs.YthohoendjipleaaGreatDoor
