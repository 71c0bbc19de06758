/-
  The events that Made returns, as a slice of their own; the plain law of the totals.
-/
import Derived.Test.YthohoendjipleaaDoorSr
namespace Go.Proofs.YthohoendjipleaaDoor
open Go.RowKit Go.Sort
set_option linter.unusedSimpArgs false

/-- a slice of events in a block of its own, or none -/
def Evs (w : World) (p : Option Addr) (cap : Nat) (L : List Ev) : Prop :=
  (p = none ∧ cap = 0 ∧ L = []) ∨ ∃ g, p = some ⟨g, 0, none⟩ ∧ g < w.heap.size ∧ L.length ≤ cap ∧ cap ≤ maxLen ∧ ∀ i e, L[i]? = some e → EvAt w g (i * 18) e
theorem Evs.later {w w' : World} {p : Option Addr} {cap : Nat} {L : List Ev} (h : Evs w p cap L) (hl : Later w w') : Evs w' p cap L := by
  rcases h with h | ⟨g, h1, h2, h3, h4, h5⟩
  · exact .inl h
  · exact .inr ⟨g, h1, Nat.lt_of_lt_of_le h2 hl.size, h3, h4, fun i e he => (h5 i e he).later hl h2⟩
theorem Evs.le {w : World} {p : Option Addr} {cap : Nat} {L : List Ev} (h : Evs w p cap L) : L.length ≤ cap ∧ cap ≤ maxLen := by
  rcases h with ⟨_, rfl, rfl⟩ | ⟨g, _, _, h3, h4, _⟩
  · exact ⟨by simp, by simp⟩
  · exact ⟨h3, h4⟩
theorem evsC_length : ∀ L : List Ev, (evsC L).length = L.length * 18
  | [] => rfl
  | a :: L => by
    rw [show evsC (a :: L) = evC a ++ evsC L from rfl, List.length_append, evsC_length L, evC_length, List.length_cons]; omega
theorem MI.evs {w wr : World} {l : List (Nat × Nat)} {k : Nat} {v : Value} {L : List Ev} (h : MI w wr l k v L) : ∃ p cap, v = .slice p L.length cap ∧ Evs wr p cap L := by
  obtain ⟨rfl, _, ho, _⟩ := h
  have ho' := ho
  rcases ho.2 with ⟨rfl, h0⟩ | ⟨g, cap, cur, rfl, _, hg, h1, h2, _⟩
  · refine ⟨none, 0, by rw [h0], .inl ⟨rfl, rfl, List.length_eq_zero_iff.1 h0⟩⟩
  · refine ⟨some ⟨g, 0, none⟩, cap, rfl, .inr ⟨g, rfl, (ho'.lt g rfl).2, h1, h2, fun i e he => EvAt_of_cells fun j v hv => ?_⟩⟩
    have hj := evC_lt e j v hv
    have := ho'.cells rfl (i * 18 + j) v (by rw [evsC_get L i e j he hj]; exact hv)
    rwa [addr_add] at this

/-- what Made's events are -/
def okM (e : Ev) : Prop := 1 ≤ e.d ∧ e.d ≤ 6 ∧ e.n ≤ 15 ∧ (e.d ≠ 5 → e.n = 0)
theorem okM.okE {e : Ev} (h : okM e) : okE e := ⟨h.1, h.2.1, by have := h.2.2.1; omega⟩
theorem codes_lt {w : World} {v : Value} {l : List (Nat × Nat)} (h : Codes w v l) (i : Nat) : (l.getD i (0, 0)).2 < 256 := by
  rcases h with ⟨_, rfl⟩ | ⟨_, _, _, rfl⟩ | ⟨b, o, cap, _, _, _, _, h5⟩
  · simp
  · simp
  · by_cases hi : i < l.length
    · exact (h5 i hi).2.1
    · rw [List.getD_eq_getElem?_getD, List.getElem?_eq_none (by omega)]; simp
theorem Makes.ok {w : World} {v : Value} {l : List (Nat × Nat)} {L : List Ev} (hc : Codes w v l) (h : Makes l L) : ∀ e ∈ L, okM e := fun e he => by
  obtain ⟨i, hi⟩ := List.mem_iff_getElem?.1 he
  obtain ⟨h1, _, h3⟩ := h.2 i e hi
  have hb := codes_lt hc i
  have hd : codeD (l.getD i (0, 0)) = 1 + (((l.getD i (0, 0)).1 % 6 : Nat) : Int) := rfl
  have hm : (l.getD i (0, 0)).1 % 6 < 6 := Nat.mod_lt _ (by omega)
  refine ⟨by rw [h1, hd]; omega, by rw [h1, hd]; omega, ?_, fun h5 => ?_⟩
  · rw [h3]; unfold codeN; split <;> omega
  · rw [h3]; unfold codeN; rw [if_neg (by rw [← h1]; exact fun h => h5 h.1)]

/-- a sum over events -/
def tot (f : Ev → Nat) (L : List Ev) : Nat := (L.map f).sum
theorem tot_next (f : Ev → Nat) {L : List Ev} {k : Nat} {e : Ev} (h : L[k]? = some e) : tot f (L.take (k + 1)) = tot f (L.take k) + f e := by
  have hk : k < L.length := by
    rcases Nat.lt_or_ge k L.length with hk | hk
    · exact hk
    · rw [List.getElem?_eq_none hk] at h; cases h
  have he : L[k] = e := by rw [List.getElem?_eq_getElem hk] at h; exact Option.some.inj h
  rw [List.take_succ_eq_append_getElem hk, he]
  simp [tot]
theorem tot_le (f : Ev → Nat) (B : Nat) : ∀ (L : List Ev), (∀ e ∈ L, f e ≤ B) → tot f L ≤ B * L.length
  | [], _ => by simp [tot]
  | a :: L, h => by
    have h1 := tot_le f B L (fun e he => h e (List.mem_cons_of_mem _ he))
    have h2 := h a List.mem_cons_self
    simp only [tot, List.map_cons, List.sum_cons, List.length_cons] at *
    rw [Nat.mul_succ]; omega
def fC (e : Ev) : Nat := if e.d = 6 then 0 else 1
def fH (e : Ev) : Nat := if e.d = 6 then 0 else if e.er = 0 then 1 else 0
def fR (e : Ev) : Nat := if e.d = 6 then 0 else if e.er = 10 ∨ e.er = 11 ∨ e.er = 12 then 1 else 0
def fP (e : Ev) : Nat := if e.d = 6 then 0 else e.n
/-- what one event adds to small counters -/
def Adds (x y : Nat → Int) (c h r p : Nat) : Prop :=
  y 0 = x 0 ∧ y 1 = x 1 ∧ y 2 + y 3 + y 4 + y 5 + y 6 = x 2 + x 3 + x 4 + x 5 + x 6 + c ∧ y 7 = x 7 + h ∧ y 8 = x 8 + r ∧ y 9 = x 9 + p
theorem mo_mid (x k : Int) (h1 : x ≤ 1000000000000) (h2 : k ≤ 1000) : mo x k = x + k := by unfold mo; rw [if_pos (by omega)]
theorem cntX_at (x : Nat → Int) (j : Nat) (n : Int) (h1 : x j ≤ 1000000000000) (h2 : n ≤ 1000) (i : Nat) : cntX x j n i = if i = j then x i + n else x i := by
  unfold cntX upd
  split
  · next h => subst h; exact mo_mid _ _ h1 h2
  · rfl
theorem errX_at (x : Nat → Int) (er : Int) (h7 : x 7 ≤ 1000000000000) (h8 : x 8 ≤ 1000000000000) (i : Nat) : errX x er i = x i + (if i = 7 ∧ er = 0 then 1 else 0) + (if i = 8 ∧ (er = 10 ∨ er = 11 ∨ er = 12) then 1 else 0) := by
  unfold errX
  by_cases h0 : er = 0
  · rw [if_pos h0]; unfold upd
    by_cases hi : i = 7
    · subst hi; rw [if_pos rfl, mo_mid _ _ h7 (by omega)]; simp [h0]
    · rw [if_neg hi]; simp [hi, h0]
  · rw [if_neg h0]
    by_cases h1 : er = 10 ∨ er = 11 ∨ er = 12
    · rw [if_pos h1]; unfold upd
      by_cases hi : i = 8
      · subst hi; rw [if_pos rfl, mo_mid _ _ h8 (by omega)]; simp [h1, h0]
      · rw [if_neg hi]; simp [hi, h0]
    · rw [if_neg h1]; simp [h1, h0]
theorem evX_adds (x : Nat → Int) (e : Ev) (he : okM e) (hx : ∀ j, x j ≤ 999999999999) : Adds x (evX x e) (fC e) (fH e) (fR e) (fP e) ∧ ∀ j, x j ≤ evX x e j ∧ evX x e j ≤ x j + 15 := by
  obtain ⟨d, er, p, n, c⟩ := e
  obtain ⟨h1, h2, h3, h4⟩ := he
  simp only at h1 h2 h3 h4
  have hb : ∀ j, x j ≤ 1000000000000 := fun j => by have := hx j; omega
  by_cases h6 : d = 6
  · subst h6
    refine ⟨⟨rfl, rfl, ?_, ?_, ?_, ?_⟩, fun j => ⟨Int.le_refl _, ?_⟩⟩ <;> simp [evX, fC, fH, fR, fP] <;> omega
  by_cases h5 : d = 5
  · subst h5
    have hc6 : ∀ i, cntX x 6 1 i = if i = 6 then x i + 1 else x i := cntX_at x 6 1 (hb 6) (by omega)
    have hc6b : ∀ i, cntX x 6 1 i ≤ 1000000000000 := fun i => by rw [hc6]; have := hx i; split <;> omega
    have hc7 : ∀ i, errX (cntX x 6 1) er i = _ := errX_at (cntX x 6 1) er (hc6b 7) (hc6b 8)
    have hc9 : errX (cntX x 6 1) er 9 ≤ 1000000000000 := by rw [hc7, hc6]; have := hx 9; simp; omega
    have hE : ∀ i, evX x ⟨5, er, p, n, c⟩ i = if i = 9 then errX (cntX x 6 1) er i + n else errX (cntX x 6 1) er i := fun i => by
      show (if (5 : Int) = 6 then x else if (5 : Int) = 5 then cntX (errX (cntX x 6 1) er) 9 n else errX (cntX x ((5 : Int).toNat + 1) 1) er) i = _
      rw [if_neg (by omega), if_pos rfl]
      exact cntX_at _ 9 n hc9 (by omega) i
    refine ⟨⟨?_, ?_, ?_, ?_, ?_, ?_⟩, fun j => ?_⟩
    · rw [hE, hc7, hc6]; simp
    · rw [hE, hc7, hc6]; simp
    · simp only [hE, hc7, hc6, fC]; simp; omega
    · simp only [hE, hc7, hc6, fH]; simp; by_cases h0 : er = 0 <;> simp [h0]
    · simp only [hE, hc7, hc6, fR]; simp; by_cases h0 : er = 10 ∨ er = 11 ∨ er = 12 <;> simp [h0]
    · simp only [hE, hc7, hc6, fP]; simp
    · rw [hE, hc7, hc6]
      by_cases j9 : j = 9
      · subst j9; simp; omega
      · by_cases j6 : j = 6
        · subst j6; simp; omega
        · rw [if_neg j9, if_neg j6]; split <;> split <;> omega
  · obtain ⟨m, hm, hm2⟩ : ∃ m : Nat, d.toNat + 1 = m ∧ (m = 2 ∨ m = 3 ∨ m = 4 ∨ m = 5) := ⟨_, rfl, by omega⟩
    have hc6 : ∀ i, cntX x m 1 i = if i = m then x i + 1 else x i := cntX_at x m 1 (hb m) (by omega)
    have hc6b : ∀ i, cntX x m 1 i ≤ 1000000000000 := fun i => by rw [hc6]; have := hx i; split <;> omega
    have hE : ∀ i, evX x ⟨d, er, p, n, c⟩ i = cntX x m 1 i + (if i = 7 ∧ er = 0 then 1 else 0) + (if i = 8 ∧ (er = 10 ∨ er = 11 ∨ er = 12) then 1 else 0) := fun i => by
      show (if d = 6 then x else if d = 5 then cntX (errX (cntX x 6 1) er) 9 n else errX (cntX x (d.toNat + 1) 1) er) i = _
      rw [if_neg h6, if_neg h5, hm]
      exact errX_at (cntX x m 1) er (hc6b 7) (hc6b 8) i
    have hn0 : n = 0 := h4 h5
    subst hn0
    refine ⟨⟨?_, ?_, ?_, ?_, ?_, ?_⟩, fun j => ?_⟩
    · rw [hE, hc6]; rcases hm2 with rfl | rfl | rfl | rfl <;> simp
    · rw [hE, hc6]; rcases hm2 with rfl | rfl | rfl | rfl <;> simp
    · simp only [hE, hc6, fC, if_neg h6]; rcases hm2 with rfl | rfl | rfl | rfl <;> simp <;> omega
    · simp only [hE, hc6, fH, if_neg h6]; rcases hm2 with rfl | rfl | rfl | rfl <;> by_cases h0 : er = 0 <;> simp [h0]
    · simp only [hE, hc6, fR, if_neg h6]; rcases hm2 with rfl | rfl | rfl | rfl <;> by_cases h0 : er = 10 ∨ er = 11 ∨ er = 12 <;> simp [h0]
    · simp only [hE, hc6, fP]; rcases hm2 with rfl | rfl | rfl | rfl <;> simp
    · rw [hE, hc6]
      by_cases jm : j = m
      · rw [if_pos jm, if_neg (by omega), if_neg (by omega)]; omega
      · rw [if_neg jm]; split <;> split <;> omega
/-- the law of the totals -/
theorem runX_adds : ∀ (L : List Ev) (x : Nat → Int), (∀ e ∈ L, okM e) → (∀ j, x j + 15 * L.length ≤ 999999999999) → Adds x (runX x L) (tot fC L) (tot fH L) (tot fR L) (tot fP L) ∧ ∀ j, x j ≤ runX x L j ∧ runX x L j ≤ x j + 15 * L.length
  | [], x, _, _ => ⟨⟨rfl, rfl, by simp [tot, runX], by simp [tot, runX], by simp [tot, runX], by simp [tot, runX]⟩, fun j => by simp [runX]⟩
  | e :: L, x, hM, hB => by
    have hl : (((e :: L).length : Nat) : Int) = L.length + 1 := by simp
    have hB' : ∀ j, x j + 15 * (L.length : Int) + 15 ≤ 999999999999 := fun j => by have := hB j; rw [hl] at this; omega
    obtain ⟨⟨a0, a1, a2, a3, a4, a5⟩, a6⟩ := evX_adds x e (hM e List.mem_cons_self) (fun j => by have := hB' j; omega)
    obtain ⟨⟨b0, b1, b2, b3, b4, b5⟩, b6⟩ := runX_adds L (evX x e) (fun e he => hM e (List.mem_cons_of_mem _ he)) (fun j => by have := hB' j; have := a6 j; omega)
    have hr : runX x (e :: L) = runX (evX x e) L := rfl
    have ht : ∀ f : Ev → Nat, tot f (e :: L) = f e + tot f L := fun f => by simp [tot]
    rw [hr]
    refine ⟨⟨by rw [b0, a0], by rw [b1, a1], ?_, ?_, ?_, ?_⟩, fun j => ?_⟩
    · rw [b2, a2, ht]; omega
    · rw [b3, a3, ht]; omega
    · rw [b4, a4, ht]; omega
    · rw [b5, a5, ht]; omega
    · have := a6 j; have := b6 j; rw [hl]; omega
/-- recording in two parts -/
theorem run_split (x : Nat → Int) (a b : Nat) (L : List Ev) (k : Nat) : runX (runX x (L.take k)) (L.drop k) = runX x L ∧ runR (runR a (L.take k)) (L.drop k) = runR a L ∧ runI (runI b (L.take k)) (L.drop k) = runI b L := by
  refine ⟨?_, ?_, ?_⟩
  · rw [runX, runX, ← List.foldl_append, List.take_append_drop]; rfl
  · rw [runR, runR, ← List.foldl_append, List.take_append_drop]; rfl
  · rw [runI, runI, ← List.foldl_append, List.take_append_drop]; rfl
theorem runR_le (L : List Ev) : ∀ a, a ≤ W2 → runR a L ≤ W2 := by
  induction L with
  | nil => exact fun a h => h
  | cons e L ih => exact fun a h => ih _ (nextR_le a e.d h)
theorem runI_le (L : List Ev) : ∀ a, a ≤ W2 → runI a L ≤ W2 := by
  induction L with
  | nil => exact fun a h => h
  | cons e L ih => exact fun a h => ih _ (nextI_le a e.d h)
theorem runX_ok (L : List Ev) : ∀ x, okX x → okX (runX x L) := by
  induction L with
  | nil => exact fun x h => h
  | cons e L ih => exact fun x h => ih _ (evX_ok h e)

/-- After of the events, of the first k, and of those behind -/
theorem After_all {w : World} {p : Option Addr} {cap : Nat} {L : List Ev} (h : Evs w p cap L) (hM : ∀ e ∈ L, okM e) (hl : L.length ≤ 60) (x0 : Nat → Int) (a0 b0 : Nat) (hx0 : okX x0) (ha0 : a0 ≤ W2) (hb0 : b0 ≤ W2) :
    Calls Tryd.prog 10 #[statV x0 a0 b0, .slice p L.length cap] w fun e w' => e = .returned (.tuple #[statV (runX x0 L) (runR a0 L) (runI b0 L), .bool true]) ∧ Later w w' := by
  rcases h with ⟨rfl, rfl, rfl⟩ | ⟨g, rfl, hg, h1, h2, h5⟩
  · exact After_nil x0 a0 b0 hx0 ha0 hb0 w
  · exact After_of g 0 L cap _ (.inl rfl) (by omega) (fun e he => (hM e he).okE) x0 a0 b0 hx0 ha0 hb0 w (fun _ => hg) (fun i e he => by rw [Nat.zero_add]; exact h5 i e he) (fun _ => hg)
theorem After_to {w : World} {p : Option Addr} {cap : Nat} {L : List Ev} (h : Evs w p cap L) (hM : ∀ e ∈ L, okM e) (hl : L.length ≤ 60) (k : Nat) (hk : k ≤ L.length) (x0 : Nat → Int) (a0 b0 : Nat) (hx0 : okX x0) (ha0 : a0 ≤ W2) (hb0 : b0 ≤ W2) :
    Calls Tryd.prog 10 #[statV x0 a0 b0, sliced p 0 k cap 18] w fun e w' => e = .returned (.tuple #[statV (runX x0 (L.take k)) (runR a0 (L.take k)) (runI b0 (L.take k)), .bool true]) ∧ Later w w' := by
  rcases h with ⟨rfl, rfl, rfl⟩ | ⟨g, rfl, hg, h1, h2, h5⟩
  · obtain rfl : k = 0 := by simpa using hk
    exact After_nil x0 a0 b0 hx0 ha0 hb0 w
  · have e1 : sliced (some ⟨g, 0, none⟩) 0 k cap 18 = .slice (some ⟨g, 0, none⟩) (L.take k).length cap := by
      simp only [sliced, List.length_take, Nat.min_eq_left hk, Nat.sub_zero]
      split <;> rfl
    rw [e1]
    exact After_of g 0 (L.take k) cap _ (.inl rfl) (by rw [List.length_take]; omega) (fun e he => (hM e (List.mem_of_mem_take he)).okE) x0 a0 b0 hx0 ha0 hb0 w (fun _ => hg)
      (fun i e he => by
        rw [Nat.zero_add]
        refine h5 i e ?_
        rw [List.getElem?_take] at he
        split at he
        · exact he
        · cases he) (fun _ => hg)
theorem After_from {w : World} {p : Option Addr} {cap : Nat} {L : List Ev} (h : Evs w p cap L) (hM : ∀ e ∈ L, okM e) (hl : L.length ≤ 60) (k : Nat) (hk : k ≤ L.length) (x0 : Nat → Int) (a0 b0 : Nat) (hx0 : okX x0) (ha0 : a0 ≤ W2) (hb0 : b0 ≤ W2) :
    Calls Tryd.prog 10 #[statV x0 a0 b0, sliced p k L.length cap 18] w fun e w' => e = .returned (.tuple #[statV (runX x0 (L.drop k)) (runR a0 (L.drop k)) (runI b0 (L.drop k)), .bool true]) ∧ Later w w' := by
  rcases h with ⟨rfl, rfl, rfl⟩ | ⟨g, rfl, hg, h1, h2, h5⟩
  · obtain rfl : k = 0 := by simpa using hk
    exact After_nil x0 a0 b0 hx0 ha0 hb0 w
  · have hget : ∀ i e, (L.drop k)[i]? = some e → L[k + i]? = some e := fun i e he => by rwa [List.getElem?_drop] at he
    by_cases hc : cap = k
    · have e1 : sliced (some ⟨g, 0, none⟩) k L.length cap 18 = .slice (some ⟨g, 0, none⟩) (L.drop k).length (cap - k) := by
        simp only [sliced, List.length_drop, if_pos hc]
      rw [e1]
      exact After_of g 0 (L.drop k) (cap - k) _ (.inl rfl) (by rw [List.length_drop]; omega) (fun e he => (hM e (List.mem_of_mem_drop he)).okE) x0 a0 b0 hx0 ha0 hb0 w (fun _ => hg)
        (fun i e he => by
          have := hget i e he
          rw [List.getElem?_eq_none (by omega)] at this; cases this) (fun _ => hg)
    · have e1 : sliced (some ⟨g, 0, none⟩) k L.length cap 18 = .slice (some ⟨g, k * 18, none⟩) (L.drop k).length (cap - k) := by
        simp only [sliced, List.length_drop, if_neg hc, Option.map_some, addr_add]
      rw [e1]
      exact After_of g (k * 18) (L.drop k) (cap - k) _ (.inl rfl) (by rw [List.length_drop]; omega) (fun e he => (hM e (List.mem_of_mem_drop he)).okE) x0 a0 b0 hx0 ha0 hb0 w (fun _ => hg)
        (fun i e he => by
          have := h5 _ e (hget i e he)
          rwa [Nat.add_mul] at this) (fun _ => hg)
/-- a Stat in a block -/
def StAt (w : World) (g : Nat) (x : Nat → Int) (a b : Nat) : Prop :=
  g < w.heap.size ∧ (∀ j, j < 10 → w.cell? ⟨g, j, none⟩ = some (.int .u64 (x j))) ∧ w.cell? ⟨g, 10, none⟩ = some (.complex .f64 a b)
theorem StAt.later {w w' : World} {g : Nat} {x : Nat → Int} {a b : Nat} (h : StAt w g x a b) (hl : Later w w') : StAt w' g x a b :=
  ⟨Nat.lt_of_lt_of_le h.1 hl.size, fun j hj => cell_at hl (h.2.1 j hj) h.1, cell_at hl h.2.2 h.1⟩
theorem StAt.of_block {w : World} {g : Nat} {x : Nat → Int} {a b : Nat} {z : Nat × Nat} (h : w.heap[g]? = some (.cells #[.int .u64 (x 0), .int .u64 (x 1), .int .u64 (x 2), .int .u64 (x 3), .int .u64 (x 4), .int .u64 (x 5), .int .u64 (x 6), .int .u64 (x 7), .int .u64 (x 8), .int .u64 (x 9), .complex .f64 a b] 29 z)) : StAt w g x a b := by
  refine ⟨?_, fun j hj => ?_, by rw [Lib.cell_of_heap h]; rfl⟩
  · rcases Nat.lt_or_ge g w.heap.size with hlt | hge
    · exact hlt
    · rw [Array.getElem?_eq_none hge] at h; cases h
  · rw [Lib.cell_of_heap h]
    have : j = 0 ∨ j = 1 ∨ j = 2 ∨ j = 3 ∨ j = 4 ∨ j = 5 ∨ j = 6 ∨ j = 7 ∨ j = 8 ∨ j = 9 := by omega
    rcases this with rfl | rfl | rfl | rfl | rfl | rfl | rfl | rfl | rfl | rfl <;> rfl
theorem StAt.of_row {w : World} {g : Nat} {x : Nat → Int} {a b : Nat} {old : Array Value} (hg : g < w.heap.size) (h : w.heap[g]? = some (.cells old 29 (0, 0))) : StAt (w.setRow g #[.int .u64 (x 0), .int .u64 (x 1), .int .u64 (x 2), .int .u64 (x 3), .int .u64 (x 4), .int .u64 (x 5), .int .u64 (x 6), .int .u64 (x 7), .int .u64 (x 8), .int .u64 (x 9), .complex .f64 a b]) g x a b := by
  have hc := fun j => cell_setRow_same w g j _ #[.int .u64 (x 0), .int .u64 (x 1), .int .u64 (x 2), .int .u64 (x 3), .int .u64 (x 4), .int .u64 (x 5), .int .u64 (x 6), .int .u64 (x 7), .int .u64 (x 8), .int .u64 (x 9), .complex .f64 a b] 29 (0, 0) h
  refine ⟨by simpa using hg, fun j hj => ?_, by rw [hc]; rfl⟩
  rw [hc]
  have : j = 0 ∨ j = 1 ∨ j = 2 ∨ j = 3 ∨ j = 4 ∨ j = 5 ∨ j = 6 ∨ j = 7 ∨ j = 8 ∨ j = 9 := by omega
  rcases this with rfl | rfl | rfl | rfl | rfl | rfl | rfl | rfl | rfl | rfl <;> rfl
end Go.Proofs.YthohoendjipleaaDoor
