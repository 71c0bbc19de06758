/-
  The plain law of differences. Conditions: small counters; the events are Made's.
-/
import Derived.Test.YthohoendjipleaaDoorEs
namespace Go.Proofs.YthohoendjipleaaDoor
open Go.RowKit Go.Sort
set_option linter.unusedSimpArgs false

/-- what one event adds to a counter -/
def aE (e : Ev) (j : Nat) : Int :=
  if e.d = 6 then 0 else (if j = e.d.toNat + 1 then 1 else 0) + (if j = 7 ∧ e.er = 0 then 1 else 0) + (if j = 8 ∧ (e.er = 10 ∨ e.er = 11 ∨ e.er = 12) then 1 else 0) + (if j = 9 ∧ e.d = 5 then (e.n : Int) else 0)
def aT (L : List Ev) (j : Nat) : Int := match L with
  | [] => 0
  | e :: r => aE e j + aT r j
theorem aE_in (e : Ev) (he : okM e) (j : Nat) : 0 ≤ aE e j ∧ aE e j ≤ 15 := by
  obtain ⟨d, er, p, n, c⟩ := e
  obtain ⟨h1, h2, h3, h4⟩ := he
  simp only at h1 h2 h3 h4
  unfold aE
  simp only
  split
  · omega
  · split <;> split <;> split <;> split <;> omega
theorem aE_low (e : Ev) (he : okM e) (j : Nat) (hj : j < 2) : aE e j = 0 := by
  obtain ⟨d, er, p, n, c⟩ := e
  obtain ⟨h1, h2, h3, h4⟩ := he
  simp only at h1 h2 h3 h4
  unfold aE
  simp only
  split
  · rfl
  · rw [if_neg (by omega), if_neg (by omega), if_neg (by omega), if_neg (by omega)]; rfl
theorem aE_zero (e : Ev) (he : okM e) (h : aE e 2 + aE e 3 + aE e 4 + aE e 5 + aE e 6 = 0) (j : Nat) : aE e j = 0 := by
  by_cases h6 : e.d = 6
  · unfold aE; rw [if_pos h6]
  · exfalso
    have h1 : 1 ≤ aE e (e.d.toNat + 1) := by
      unfold aE
      rw [if_neg h6, if_pos rfl]
      split <;> split <;> split <;> omega
    have n2 := (aE_in e he 2).1
    have n3 := (aE_in e he 3).1
    have n4 := (aE_in e he 4).1
    have n5 := (aE_in e he 5).1
    have n6 := (aE_in e he 6).1
    have hd1 := he.1
    have hd2 := he.2.1
    have : e.d.toNat + 1 = 2 ∨ e.d.toNat + 1 = 3 ∨ e.d.toNat + 1 = 4 ∨ e.d.toNat + 1 = 5 ∨ e.d.toNat + 1 = 6 := by omega
    rcases this with hk | hk | hk | hk | hk <;> rw [hk] at h1 <;> omega
theorem evX_a (x : Nat → Int) (e : Ev) (he : okM e) (hx : ∀ j, x j ≤ 999999999999) (j : Nat) : evX x e j = x j + aE e j := by
  obtain ⟨d, er, p, n, c⟩ := e
  obtain ⟨h1, h2, h3, h4⟩ := he
  simp only at h1 h2 h3 h4
  have hb : ∀ j, x j ≤ 1000000000000 := fun j => by have := hx j; omega
  unfold aE
  simp only
  by_cases h6 : d = 6
  · rw [if_pos h6]; simp [evX, h6]
  rw [if_neg h6]
  obtain ⟨m, hm, hm2⟩ : ∃ m : Nat, d.toNat + 1 = m ∧ (m = 2 ∨ m = 3 ∨ m = 4 ∨ m = 5 ∨ m = 6) := ⟨_, rfl, by omega⟩
  rw [hm]
  have hc6 : ∀ i, cntX x m 1 i = if i = m then x i + 1 else x i := cntX_at x m 1 (hb m) (by omega)
  have hc6b : ∀ i, cntX x m 1 i ≤ 1000000000000 := fun i => by rw [hc6]; have := hx i; split <;> omega
  have hc7 := errX_at (cntX x m 1) er (hc6b 7) (hc6b 8)
  have hs : cntX x m 1 j = x j + (if j = m then 1 else 0) := by rw [hc6]; split <;> omega
  by_cases h5 : d = 5
  · subst h5
    obtain rfl : m = 6 := by omega
    have hc9 : errX (cntX x 6 1) er 9 ≤ 1000000000000 := by rw [hc7, hc6]; have := hx 9; simp; omega
    have hE : evX x ⟨5, er, p, n, c⟩ j = if j = 9 then errX (cntX x 6 1) er j + n else errX (cntX x 6 1) er j := by
      show (if (5 : Int) = 6 then x else if (5 : Int) = 5 then cntX (errX (cntX x 6 1) er) 9 n else errX (cntX x ((5 : Int).toNat + 1) 1) er) j = _
      rw [if_neg (by omega), if_pos rfl]
      exact cntX_at _ 9 n hc9 (by omega) j
    rw [hE, hc7 j, hs]
    by_cases j9 : j = 9
    · subst j9; simp
    · simp [j9]; omega
  · have hE : evX x ⟨d, er, p, n, c⟩ j = errX (cntX x m 1) er j := by
      show (if d = 6 then x else if d = 5 then cntX (errX (cntX x 6 1) er) 9 n else errX (cntX x (d.toNat + 1) 1) er) j = _
      rw [if_neg h6, if_neg h5, hm]
    rw [hE, hc7 j, hs]; simp [h5]; omega
theorem runX_a : ∀ (L : List Ev) (x : Nat → Int), (∀ e ∈ L, okM e) → (∀ j, x j + 15 * L.length ≤ 999999999999) → ∀ j, runX x L j = x j + aT L j
  | [], x, _, _, j => by simp [runX, aT]
  | e :: L, x, hM, hB, j => by
    have hl : (((e :: L).length : Nat) : Int) = L.length + 1 := by simp
    have hB' : ∀ j, x j + 15 * (L.length : Int) + 15 ≤ 999999999999 := fun j => by have := hB j; rw [hl] at this; omega
    have he := hM e List.mem_cons_self
    have h1 : ∀ j, evX x e j = x j + aE e j := evX_a x e he (fun j => by have := hB' j; omega)
    have := runX_a L (evX x e) (fun e he => hM e (List.mem_cons_of_mem _ he)) (fun j => by have := hB' j; have := h1 j; have := aE_in e he j; omega) j
    rw [show runX x (e :: L) = runX (evX x e) L from rfl, this, h1 j]
    simp only [aT]; omega
theorem aT_in : ∀ (L : List Ev), (∀ e ∈ L, okM e) → ∀ j, 0 ≤ aT L j ∧ aT L j ≤ 15 * L.length
  | [], _, j => by simp [aT]
  | e :: L, hM, j => by
    have h1 := aE_in e (hM e List.mem_cons_self) j
    have h2 := aT_in L (fun e he => hM e (List.mem_cons_of_mem _ he)) j
    simp only [aT, List.length_cons]; omega
theorem aT_low : ∀ (L : List Ev), (∀ e ∈ L, okM e) → ∀ j, j < 2 → aT L j = 0
  | [], _, j, _ => by simp [aT]
  | e :: L, hM, j, hj => by
    have h1 := aE_low e (hM e List.mem_cons_self) j hj
    have h2 := aT_low L (fun e he => hM e (List.mem_cons_of_mem _ he)) j hj
    simp only [aT]; omega
theorem aT_zero : ∀ (L : List Ev), (∀ e ∈ L, okM e) → aT L 2 + aT L 3 + aT L 4 + aT L 5 + aT L 6 = 0 → ∀ j, aT L j = 0
  | [], _, _, j => by simp [aT]
  | e :: L, hM, h, j => by
    have he := hM e List.mem_cons_self
    have hr := fun e he => hM e (List.mem_cons_of_mem _ he)
    have b := aT_in L hr
    have c := aE_in e he
    simp only [aT] at h ⊢
    have b2 := b 2; have b3 := b 3; have b4 := b 4; have b5 := b 5; have b6 := b 6
    have c2 := c 2; have c3 := c 3; have c4 := c 4; have c5 := c 5; have c6 := c 6
    rw [aE_zero e he (by omega) j, aT_zero L hr (by omega) j]; rfl

/-- a Stat without counts -/
def clX (x : Nat → Int) : Nat → Int := fun j => if j < 2 then x j else 0
/-- the difference behind k rounds -/
def siX (old now : Nat → Int) (k : Nat) : Nat → Int := fun i => if 2 ≤ i ∧ i < 2 + k then now i - old i else now i
theorem siX_zero (x z : Nat → Int) : siX x z 0 = z := by funext i; unfold siX; rw [if_neg (by omega)]
theorem siX_next (x z : Nat → Int) (k : Nat) : upd (siX x z k) (2 + k) (z (2 + k) - x (2 + k)) = siX x z (k + 1) := by
  funext i
  unfold upd siX
  by_cases h : i = 2 + k
  · subst h; simp
  · rw [if_neg h]
    by_cases h2 : 2 ≤ i ∧ i < 2 + k
    · rw [if_pos h2, if_pos (by omega)]
    · rw [if_neg h2, if_neg (by omega)]
/-- every counter of the first is at most that of the second -/
def leX (x z : Nat → Int) : Prop := ∀ j, 2 ≤ j → j < 10 → x j ≤ z j
/-- the law of the differences -/
theorem back_law (n : Nat → Int) (hn : ∀ j, 0 ≤ n j ∧ n j ≤ 4294967295) (L : List Ev) (hM : ∀ e ∈ L, okM e) (hl : L.length ≤ 60) :
    leX n (runX n L) ∧ (∀ j, j < 10 → siX n (runX n L) 8 j = runX (clX n) L j) ∧ (leX (runX n L) n ↔ runX (clX n) L 2 + runX (clX n) L 3 + runX (clX n) L 4 + runX (clX n) L 5 + runX (clX n) L 6 = 0) ∧
      ∀ j, 2 ≤ j → 0 ≤ runX (clX n) L j ∧ runX (clX n) L j ≤ 900 := by
  have hc : ∀ j, 0 ≤ clX n j ∧ clX n j ≤ 4294967295 := fun j => by unfold clX; have := hn j; split <;> omega
  have h1 := runX_a L n hM (fun j => by have := hn j; omega)
  have h2 := runX_a L (clX n) hM (fun j => by have := hc j; omega)
  have h3 := aT_in L hM
  have h4 := aT_low L hM
  have hz : ∀ j, 2 ≤ j → clX n j = 0 := fun j hj => by unfold clX; rw [if_neg (by omega)]
  have hs : ∀ j, j < 2 → clX n j = n j := fun j hj => by unfold clX; rw [if_pos hj]
  refine ⟨fun j _ _ => by rw [h1]; have := h3 j; omega, fun j hj => ?_, ⟨fun h => ?_, fun h j h2' h10 => ?_⟩, fun j hj => by rw [h2, hz j hj]; have := h3 j; omega⟩
  · unfold siX
    by_cases hj2 : 2 ≤ j
    · rw [if_pos (by omega), h1, h2, hz j hj2]; omega
    · rw [if_neg (by omega), h1, h2, hs j (by omega)]
  · have g : ∀ j, 2 ≤ j → j < 10 → runX (clX n) L j = 0 := fun j h2' h10 => by
      have := h j h2' h10; rw [h1] at this; have := h3 j; rw [h2, hz j h2']; omega
    rw [g 2 (by omega) (by omega), g 3 (by omega) (by omega), g 4 (by omega) (by omega), g 5 (by omega) (by omega), g 6 (by omega) (by omega)]; rfl
  · rw [h2, h2, h2, h2, h2, hz 2 (by omega), hz 3 (by omega), hz 4 (by omega), hz 5 (by omega), hz 6 (by omega)] at h
    rw [h1, aT_zero L hM (by omega) j]; omega
end Go.Proofs.YthohoendjipleaaDoor
