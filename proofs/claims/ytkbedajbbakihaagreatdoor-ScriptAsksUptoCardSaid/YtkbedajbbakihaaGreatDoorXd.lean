/-
  Texts of this proof, put together (FiZ, SeZ, PzZ): each part's first words say what it holds. Conditions: as each part says.
-/
import Derived.Test.YtkbedajbbakihaaGreatDoorQe1
import Derived.Test.YtkbedajbbakihaaGreatDoorQj
import Derived.Test.YtkbedajbbakihaaGreatDoorQg
import Derived.Test.YtkbedajbbakihaaGreatDoorQb
import Derived.Test.YtkbedajbbakihaaGreatDoorQi
import Derived.Test.YtkbedajbbakihaaGreatDoorXb
/-
  Plain: what is read off a text fits. Conditions: none.
-/
namespace Go.Proofs.YtkbedajbbakihaaGreatDoor
open Go.Lib
set_option linter.unusedSimpArgs false
set_option linter.unusedVariables false

/-- a request whose texts have at most N letters -/
structure FitN (N : Nat) (r : Req) : Prop extends Req.ok r where
  hr : 0 ≤ r.hr ∧ r.hr ≤ 255
  rts : 0 ≤ r.rts ∧ r.rts ≤ 255
  ten : -9223372036854775808 ≤ r.ten ∧ r.ten ≤ 9223372036854775807
  ht : -9223372036854775808 ≤ r.ht ∧ r.ht ≤ 9223372036854775807
  deed : -9223372036854775808 ≤ r.deed ∧ r.deed ≤ 9223372036854775807
  len : r.key.length + r.val.length + r.old.length ≤ N
theorem FitN.fit {N : Nat} {r : Req} (h : FitN N r) (hN : N ≤ 5000000) : r.fit := ⟨⟨h.hg, h.qk, h.qb, h.lim⟩, h.hr, h.rts, h.ten, h.ht, h.deed, Nat.le_trans h.len hN⟩
theorem wordB_pos (c : UInt8) : 1 ≤ (wordB c).length := by unfold wordB; split <;> simp
theorem word_ge (l : List UInt8) : l.length ≤ (word l).length := by
  unfold word
  split
  · rename_i h; rw [h]; simp
  · have : ∀ m : List UInt8, m.length ≤ (m.flatMap wordB).length := by
      intro m
      induction m with
      | nil => simp
      | cons c m ih => rw [List.flatMap_cons, List.length_append, List.length_cons]; have := wordB_pos c; omega
    exact this l
theorem unword_len {w x : List UInt8} (h : unword w = some x) : x.length ≤ w.length := by
  have := word_ge x
  rw [word_of_unword h] at this
  exact this
theorem step_fit (f : Fld) (w : List UInt8) (r s : Req) (N : Nat) (h : stepF f w r = some s) (hr : FitN N r) : FitN (N + w.length) s := by
  obtain ⟨⟨a1, a2, a3, a4⟩, a5, a6, a7, a8, a9, a10⟩ := hr
  have okr : ∀ (t g : Nat) (z : Int), okH t g z = true → (-9223372036854775808 ≤ (t : Int) ∧ (t : Int) ≤ 9223372036854775807) ∧ (0 ≤ z ∧ z ≤ 255) := fun t g z ho => by
    have := (okH_iff _ _ _).1 ho
    omega
  cases f with
  | hdl =>
    simp only [stepF] at h
    cases hx : rdH w with
    | none => rw [hx] at h; cases h
    | some x =>
      rw [hx] at h
      cases h
      obtain ⟨t, g, h1, h2, h3, h4, h5⟩ := (rdH_iff w x).1 hx
      have h6 := okr t g _ h3
      exact ⟨⟨by show 0 ≤ x.2.1 ∧ x.2.1 ≤ _; omega, a2, a3, a4⟩, h6.2, a6, a7, by show _ ≤ x.1 ∧ x.1 ≤ _; rw [h1]; exact h6.1, a9, by show r.key.length + r.val.length + r.old.length ≤ _; omega⟩
  | key =>
    simp only [stepF] at h
    cases hx : unword w with
    | none => rw [hx] at h; cases h
    | some x =>
      rw [hx] at h; cases h
      have := unword_len hx
      exact ⟨⟨a1, a2, a3, a4⟩, a5, a6, a7, a8, a9, by show x.length + r.val.length + r.old.length ≤ _; omega⟩
  | val =>
    simp only [stepF] at h
    cases hx : unword w with
    | none => rw [hx] at h; cases h
    | some x =>
      rw [hx] at h; cases h
      have := unword_len hx
      exact ⟨⟨a1, a2, a3, a4⟩, a5, a6, a7, a8, a9, by show r.key.length + x.length + r.old.length ≤ _; omega⟩
  | old =>
    simp only [stepF] at h
    cases hx : unword w with
    | none => rw [hx] at h; cases h
    | some x =>
      rw [hx] at h; cases h
      have := unword_len hx
      exact ⟨⟨a1, a2, a3, a4⟩, a5, a6, a7, a8, a9, by show r.key.length + r.val.length + x.length ≤ _; omega⟩
  | lim =>
    simp only [stepF] at h
    cases hx : num w with
    | none => rw [hx] at h; cases h
    | some x =>
      rw [hx] at h; cases h
      have := ((num_iff w x).1 hx).1
      exact ⟨⟨a1, a2, a3, by show _ ≤ x ∧ x ≤ _; omega⟩, a5, a6, a7, a8, a9, by show r.key.length + r.val.length + r.old.length ≤ _; omega⟩
  | ten =>
    simp only [stepF] at h
    cases hx : num w with
    | none => rw [hx] at h; cases h
    | some x =>
      rw [hx] at h; cases h
      have := ((num_iff w x).1 hx).1
      exact ⟨⟨a1, a2, a3, a4⟩, a5, a6, by show _ ≤ x ∧ x ≤ _; omega, a8, a9, by show r.key.length + r.val.length + r.old.length ≤ _; omega⟩
  | qk =>
    simp only [stepF] at h
    cases hx : lrg w with
    | none => rw [hx] at h; cases h
    | some x =>
      rw [hx] at h; cases h
      have := ((lrg_iff w x).1 hx).1
      exact ⟨⟨a1, by show 0 ≤ (x : Int) ∧ (x : Int) ≤ _; omega, a3, a4⟩, a5, a6, a7, a8, a9, by show r.key.length + r.val.length + r.old.length ≤ _; omega⟩
  | qb =>
    simp only [stepF] at h
    cases hx : lrg w with
    | none => rw [hx] at h; cases h
    | some x =>
      rw [hx] at h; cases h
      have := ((lrg_iff w x).1 hx).1
      exact ⟨⟨a1, a2, by show 0 ≤ (x : Int) ∧ (x : Int) ≤ _; omega, a4⟩, a5, a6, a7, a8, a9, by show r.key.length + r.val.length + r.old.length ≤ _; omega⟩
  | rts =>
    simp only [stepF] at h
    cases hx : rdH (49 :: 46 :: 49 :: 46 :: w) with
    | none => rw [hx] at h; cases h
    | some x =>
      rw [hx] at h
      cases h
      obtain ⟨t, g, h1, h2, h3, h4, h5⟩ := (rdH_iff _ x).1 hx
      have h6 := okr t g _ h3
      exact ⟨⟨a1, a2, a3, a4⟩, a5, h6.2, a7, a8, a9, by show r.key.length + r.val.length + r.old.length ≤ _; omega⟩
theorem fold_fit (fs : List Fld) : ∀ (ws : List (List UInt8)) (r s : Req) (N : Nat), foldF fs ws r = some s → FitN N r → FitN (N + sumL ws) s := by
  induction fs with
  | nil =>
    intro ws r s N h hr
    cases ws with
    | nil => cases h; simpa [sumL] using hr
    | cons w ws => cases h
  | cons f fs ih =>
    intro ws r s N h hr
    cases ws with
    | nil => cases h
    | cons w ws =>
      rw [foldF] at h
      cases hs : stepF f w r with
      | none => rw [hs] at h; cases h
      | some q =>
        rw [hs, Option.bind_some] at h
        have := ih ws q s _ h (step_fit f w r q N hs hr)
        simpa [sumL, Nat.add_assoc] using this
theorem read_fit {ws : List (List UInt8)} {r : Req} (h : readR ws = some r) : FitN (sumL ws) r := by
  cases ws with
  | nil => cases h
  | cons w ws =>
    rw [readR] at h
    cases hd : deedW w with
    | none => rw [hd] at h; cases h
    | some d =>
      rw [hd, Option.bind_some] at h
      obtain ⟨hd1, rfl⟩ := deedW_of hd
      have h0 : FitN 0 { req0 with deed := (d : Int) } := by
        refine ⟨⟨?_, ?_, ?_, ?_⟩, ?_, ?_, ?_, ?_, ?_, ?_⟩ <;> simp [req0] <;> omega
      have := fold_fit _ ws _ r 0 h h0
      refine ⟨⟨this.hg, this.qk, this.qb, this.lim⟩, this.hr, this.rts, this.ten, this.ht, this.deed, Nat.le_trans this.len ?_⟩
      simp [sumL]
end Go.Proofs.YtkbedajbbakihaaGreatDoor

/-
  Entries and scripts compared (equal ones), walked. Conditions: the lists lie in memory.
-/
namespace Go.Proofs.YtkbedajbbakihaaGreatDoor
open Go.RowKit
set_option linter.unusedSimpArgs false
set_option linter.unusedVariables false

theorem mixedS : Tryz.prog.follows .mixedOrders = true := by kernel_rfl
end Go.Proofs.YtkbedajbbakihaaGreatDoor

/-
  Parse and Format as the laws call them, and one law walked: ScriptAgain. Conditions: the listed variables read as laid.
-/
namespace Go.Proofs.YtkbedajbbakihaaGreatDoor
open Go.RowKit
set_option linter.unusedSimpArgs false
set_option linter.unusedVariables false

end Go.Proofs.YtkbedajbbakihaaGreatDoor
