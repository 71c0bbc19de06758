/-
 Texts of this proof, put together (Pm): each part's first words say what it holds. Conditions: as each part says.
-/
import Derived.Test.YtkbedajbbakihaaGreatDoorQe1
import Derived.Test.YtkbedajbbakihaaGreatDoorQb
/-
 Parse's state within a round. Conditions: none.
-/
namespace Go.Proofs.YtkbedajbbakihaaGreatDoor
open Go.RowKit Go.Sort Go.Lib
set_option linter.unusedSimpArgs false
set_option linter.unusedVariables false

theorem Later.grownBy {W W' : World} (h : Later W W') (row : Option Nat) : W.grownBy W' row := ⟨h.os, h.tape, h.output, h.size, fun k hk _ => h.block k hk⟩
theorem KeepsFrom.of_later {D : Nat} {W W' : World} (h : Later W W') : KeepsFrom D W W' := ⟨h.size, fun k o _ hk _ => (h.block k (Array.getElem?_eq_some_iff.1 hk).1).trans hk⟩
/-- the state within a round: entries and picks st, n lines before -/
structure PMid (w : World) (D n : Nat) (st : Scr) (W0 W' : World) : Prop where
 later : Later w W'
 big : D ≤ W'.heap.size
 r0 : W'.heap[w.heap.size]? = some (.cells #[.slice none 0 0, .slice none 0 0] 45 (0, 0))
 r1 : W'.heap[w.heap.size + 1]? = some (.cells #[.int .i64 0] 3 (0, 0))
 r2 : W'.heap[w.heap.size + 2]? = some (.cells #[.int .i64 0] 24 (0, 0))
 nb : W'.heap[w.heap.size + 4]? = some (.cells #[.int .i64 (n : Int)] 3 (0, 0))
 st : ∃ ev pv, W'.heap[w.heap.size + 3]? = some (.cells #[ev, pv] 45 (0, 0)) ∧ W'.ownsRow D 59 13 ev st.1.length (entC st.1) ∧ W'.ownsRow D 3 1 pv st.2.length (ints st.2)
 kf : KeepsFrom D W0 W'
 tb : W'.heap[w.heap.size + 5]? = W0.heap[w.heap.size + 5]?
theorem PMid.of {w : World} {D : Nat} {pre : List (List UInt8 × Bool)} {W : World} (h : PS w D pre W) : ∃ st, runP pre ([], []) 0 = .ok st ∧ PMid w D pre.length st W W := by
 obtain ⟨a1, a2, a3, a4, a5, a6, st, ev, pv, b1, b2, b3, b4⟩ := h
 exact ⟨st, b1, a1, a2, a3, a4, a5, a6, ⟨ev, pv, b2, b3, b4⟩, KeepsFrom.refl _ _, rfl⟩
theorem PMid.after {w : World} {D n : Nat} {st : Scr} {W0 W W' : World} (h : PMid w D n st W0 W) (hD : w.heap.size + 6 ≤ D) (hl : Later W W') : PMid w D n st W0 W' := by
 have hb := h.big
 obtain ⟨ev, pv, b2, b3, b4⟩ := h.st
 exact ⟨h.later.trans hl, Nat.le_trans hb hl.size, (hl.block _ (by omega)).trans h.r0, (hl.block _ (by omega)).trans h.r1, (hl.block _ (by omega)).trans h.r2, (hl.block _ (by omega)).trans h.nb,
  ⟨ev, pv, (hl.block _ (by omega)).trans b2, b3.kept (hl.grownBy none) (by cases ev.ownBlock <;> simp), b4.kept (hl.grownBy none) (by cases pv.ownBlock <;> simp)⟩,
  h.kf.trans (KeepsFrom.of_later hl), (hl.block _ (by omega)).trans h.tb⟩
theorem own_apart {W : World} {b1 b2 n1 n2 s1 s2 : Nat} {e1 e2 : TypeId} {v1 v2 : Value} {x1 x2 : List Value} (h : W.ownsRow b1 e1 s1 v1 n1 x1) (k : W.ownsRow b2 e2 s2 v2 n2 x2) (hne : e1 ≠ e2) : v1.ownBlock = none ∨ v1.ownBlock ≠ v2.ownBlock := by
 rcases h.2 with ⟨rfl, _⟩ | ⟨g, cap, cur, rfl, _, hg, _⟩
 ·exact .inl rfl
 ·refine .inr fun e => ?_
  rcases k.2 with ⟨rfl, _⟩ | ⟨g', cap', cur', rfl, _, hg', _⟩
  ·simp [Value.ownBlock] at e
  ·simp only [Value.ownBlock, Option.some.injEq] at e
   subst e
   rw [hg] at hg'
   injection hg' with hg'
   injection hg' with _ h2 _
   exact hne h2
theorem two_set0 {w : World} {p : Nat} {a b u : Value} {t : TypeId} (h : w.heap[p]? = some (.cells #[a, b] t (0, 0))) : (w.setCell ⟨p, 0, none⟩ u).heap[p]? = some (.cells #[u, b] t (0, 0)) := by
 rw [setCell_eq_setRow w p 0 _ t (0, 0) _ h]
 exact setRow_heap w p _ _ t (0, 0) h
theorem two_set1 {w : World} {p : Nat} {a b u : Value} {t : TypeId} (h : w.heap[p]? = some (.cells #[a, b] t (0, 0))) : (w.setCell ⟨p, 1, none⟩ u).heap[p]? = some (.cells #[a, u] t (0, 0)) := by
 rw [setCell_eq_setRow w p 1 _ t (0, 0) _ h]
 exact setRow_heap w p _ _ t (0, 0) h
theorem own_set {W : World} {base e size n p o : Nat} {v u : Value} {xs : List Value} (h : W.ownsRow base e size v n xs) (hp : p < base) : (W.setCell ⟨p, o, none⟩ u).ownsRow base e size v n xs :=
 ownsRow_setCell_below h (a := ⟨p, o, none⟩) hp u
theorem PMid.grow {w : World} {D n : Nat} {st : Scr} {W0 W W6 : World} (h : PMid w D n st W0 W) (hD : w.heap.size + 6 ≤ D) {g : Value} {base e size k : Nat} {xs : List Value} (hg0 : W.ownsRow D e size g k xs) (hg : W.grownBy W6 g.ownBlock) :
  Later w W6 ∧ D ≤ W6.heap.size ∧ (∀ k, k < D → W6.heap[k]? = W.heap[k]?) ∧ KeepsFrom D W0 W6 := by
 have hb := h.big
 have hlt : ∀ k, g.ownBlock = some k → D ≤ k := fun k hk => (hg0.lt k hk).1
 have keep : ∀ k, k < D → W6.heap[k]? = W.heap[k]? := fun k hk => hg.block k (by omega) (fun e => by have := hlt k e.symm; omega)
 refine ⟨⟨hg.os.trans h.later.os, hg.tape.trans h.later.tape, hg.output.trans h.later.output, Nat.le_trans h.later.size hg.size, fun k hk => (keep k (by omega)).trans (h.later.block k hk)⟩, Nat.le_trans hb hg.size, keep, h.kf.trans ⟨hg.size, fun k o _ hk ho => (hg.block k (Array.getElem?_eq_some_iff.1 hk).1 (fun e => ?_)).trans hk⟩⟩
 rcases hg0.2 with ⟨rfl, _⟩ | ⟨g', cap', cur', rfl, _, hg', _⟩
 ·simp [Value.ownBlock] at e
 ·simp only [Value.ownBlock, Option.some.injEq] at e
  subst e
  rw [hg'] at hk
  cases hk
  cases ho
theorem setCell_low {w : World} {D p o : Nat} {u : Value} {W : World} (hl : Later w W) (hp : w.heap.size ≤ p) (hpD : p < D) : Later w (W.setCell ⟨p, o, none⟩ u) ∧ KeepsFrom D W (W.setCell ⟨p, o, none⟩ u) ∧ (∀ k, k ≠ p → (W.setCell ⟨p, o, none⟩ u).heap[k]? = W.heap[k]?) :=
 ⟨hl.setCell _ _ hp, (KeepsOthers.setCell W _ _).from D, fun k hk => Below.heap_setCell _ _ _ _ hk⟩
/-- picks have been appended and stored -/
theorem PMid.picks {w : World} {D n : Nat} {st : Scr} {W0 W W6 : World} (h : PMid w D n st W0 W) (hD : w.heap.size + 6 ≤ D) {ev pv s3 : Value} {l : List Int} (hS : W.heap[w.heap.size + 3]? = some (.cells #[ev, pv] 45 (0, 0)))
  (hev : W.ownsRow D 59 13 ev st.1.length (entC st.1)) (hpv : W.ownsRow D 3 1 pv st.2.length (ints st.2)) (h6 : W6.ownsRow D 3 1 s3 (st.2.length + l.length) (ints st.2 ++ ints l)) (hg : W.grownBy W6 pv.ownBlock) :
  PMid w D n (st.1, st.2 ++ l) W0 (W6.setCell ⟨w.heap.size + 3, 1, none⟩ s3) := by
 obtain ⟨h1, h2, h3, h4⟩ := h.grow (base := D) hD hpv hg
 obtain ⟨k1, k2, k3⟩ := setCell_low (D := D) (p := w.heap.size + 3) (o := 1) (u := s3) h1 (by omega) (by omega)
 refine ⟨k1, by simpa using h2, (k3 _ (by omega)).trans ((h3 _ (by omega)).trans h.r0), (k3 _ (by omega)).trans ((h3 _ (by omega)).trans h.r1), (k3 _ (by omega)).trans ((h3 _ (by omega)).trans h.r2), (k3 _ (by omega)).trans ((h3 _ (by omega)).trans h.nb),
  ⟨ev, s3, two_set1 ((h3 _ (by omega)).trans hS), own_set (hev.kept hg (own_apart hev hpv (by decide))) (by omega), own_set (by rw [List.length_append]; simpa [ints] using h6) (by omega)⟩, h4.trans k2, (k3 _ (by omega)).trans ((h3 _ (by omega)).trans h.tb)⟩
/-- an entry has been appended and stored -/
theorem PMid.entry {w : World} {D n : Nat} {st : Scr} {W0 W W6 : World} (h : PMid w D n st W0 W) (hD : w.heap.size + 6 ≤ D) {ev pv s3 : Value} {e : Int × Req} (hS : W.heap[w.heap.size + 3]? = some (.cells #[ev, pv] 45 (0, 0)))
  (hev : W.ownsRow D 59 13 ev st.1.length (entC st.1)) (hpv : W.ownsRow D 3 1 pv st.2.length (ints st.2)) (h6 : W6.ownsRow D 59 13 s3 (st.1.length + 1) (entC st.1 ++ (.int .i64 e.1 :: (reqA e.2).toList))) (hg : W.grownBy W6 ev.ownBlock) :
  PMid w D n (st.1 ++ [e], st.2) W0 (W6.setCell ⟨w.heap.size + 3, 0, none⟩ s3) := by
 obtain ⟨h1, h2, h3, h4⟩ := h.grow (base := D) hD hev hg
 obtain ⟨k1, k2, k3⟩ := setCell_low (D := D) (p := w.heap.size + 3) (o := 0) (u := s3) h1 (by omega) (by omega)
 refine ⟨k1, by simpa using h2, (k3 _ (by omega)).trans ((h3 _ (by omega)).trans h.r0), (k3 _ (by omega)).trans ((h3 _ (by omega)).trans h.r1), (k3 _ (by omega)).trans ((h3 _ (by omega)).trans h.r2), (k3 _ (by omega)).trans ((h3 _ (by omega)).trans h.nb),
  ⟨s3, pv, two_set0 ((h3 _ (by omega)).trans hS), own_set (by rw [entC_snoc, List.length_append]; exact h6) (by omega), own_set (hpv.kept hg (own_apart hpv hev (by decide))) (by omega)⟩, h4.trans k2, (k3 _ (by omega)).trans ((h3 _ (by omega)).trans h.tb)⟩
/-- the line is counted -/
theorem PMid.count {w : World} {D n : Nat} {st : Scr} {W0 W : World} (h : PMid w D n st W0 W) (hD : w.heap.size + 6 ≤ D) (m : Int) (hm : m = ((n + 1 : Nat) : Int)) (pre : List (List UInt8 × Bool)) (hp : pre.length = n + 1) (hr : runP pre ([], []) 0 = .ok st) :
  PS w D pre (W.setCell ⟨w.heap.size + 4, 0, none⟩ (.int .i64 m)) ∧ KeepsFrom D W0 (W.setCell ⟨w.heap.size + 4, 0, none⟩ (.int .i64 m)) ∧ (W.setCell ⟨w.heap.size + 4, 0, none⟩ (.int .i64 m)).heap[w.heap.size + 5]? = W0.heap[w.heap.size + 5]? := by
 subst hm
 obtain ⟨k1, k2, k3⟩ := setCell_low (D := D) (p := w.heap.size + 4) (o := 0) (u := .int .i64 ((n + 1 : Nat) : Int)) h.later (by omega) (by omega)
 obtain ⟨ev, pv, b2, b3, b4⟩ := h.st
 refine ⟨⟨k1, by simpa using h.big, (k3 _ (by omega)).trans h.r0, (k3 _ (by omega)).trans h.r1, (k3 _ (by omega)).trans h.r2, ?_, st, ev, pv, hr, (k3 _ (by omega)).trans b2, own_set b3 (by omega), own_set b4 (by omega)⟩, h.kf.trans k2, (k3 _ (by omega)).trans h.tb⟩
 rw [hp]
 exact one_set h.nb
/-- on the way out: c the error, d3 and d4 whether index and error are stored -/
structure EW (w : World) (D n : Nat) (c : Int) (W0 : World) (d3 d4 : Bool) (W' : World) : Prop where
 later : Later w W'
 big : D ≤ W'.heap.size
 r0 : W'.heap[w.heap.size]? = some (.cells #[.slice none 0 0, .slice none 0 0] 45 (0, 0))
 r1 : W'.heap[w.heap.size + 1]? = some (.cells #[.int .i64 (if d3 = true then (n : Int) else 0)] 3 (0, 0))
 r2 : W'.heap[w.heap.size + 2]? = some (.cells #[.int .i64 (if d4 = true then c else 0)] 24 (0, 0))
 nb : W'.heap[w.heap.size + 4]? = some (.cells #[.int .i64 (n : Int)] 3 (0, 0))
 kf : KeepsFrom D W0 W'
theorem PMid.ew {w : World} {D n : Nat} {st : Scr} {W0 W : World} (h : PMid w D n st W0 W) (c : Int) : EW w D n c W0 false false W := ⟨h.later, h.big, h.r0, h.r1, h.r2, h.nb, h.kf⟩
theorem EW.drew {w : World} {D n : Nat} {c : Int} {W0 W : World} {d3 d4 : Bool} (h : EW w D n c W0 d3 d4 W) : EW w D n c W0 d3 d4 { W with drawn := W.drawn + 1 } :=
 ⟨h.later.drew, h.big, h.r0, h.r1, h.r2, h.nb, ⟨h.kf.size, h.kf.same⟩⟩
theorem EW.row {w : World} {D n : Nat} {c : Int} {W0 W : World} {d3 d4 : Bool} (h : EW w D n c W0 d3 d4 W) : EW w D n c W0 d3 d4 (W.setRow w.heap.size #[.slice none 0 0, .slice none 0 0]) := by
 have hs := setRow_heap W w.heap.size _ #[.slice none 0 0, .slice none 0 0] 45 (0, 0) h.r0
 have ho : ∀ k, k ≠ w.heap.size → (W.setRow w.heap.size #[.slice none 0 0, .slice none 0 0]).heap[k]? = W.heap[k]? := fun k hk => setRow_other W _ k _ hk
 refine ⟨⟨h.later.os, h.later.tape, h.later.output, by have := h.later.size; simpa using this, fun k hk => (ho k (by omega)).trans (h.later.block k hk)⟩, by simpa using h.big, hs, (ho _ (by omega)).trans h.r1, (ho _ (by omega)).trans h.r2, (ho _ (by omega)).trans h.nb, h.kf.trans ⟨by simp, fun k o hB hk hoc => ?_⟩⟩
 by_cases e : k = w.heap.size
 ·subst e
  rw [h.r0] at hk
  cases hk
  cases hoc
 ·exact (ho k e).trans hk
theorem EW.set1 {w : World} {D n : Nat} {c : Int} {W0 W : World} {d4 : Bool} (h : EW w D n c W0 false d4 W) (hD : w.heap.size + 6 ≤ D) (m : Int) (hm : m = (n : Int)) : EW w D n c W0 true d4 (W.setCell ⟨w.heap.size + 1, 0, none⟩ (.int .i64 m)) := by
 subst hm
 obtain ⟨k1, k2, k3⟩ := setCell_low (D := D) (p := w.heap.size + 1) (o := 0) (u := .int .i64 (n : Int)) h.later (by omega) (by omega)
 exact ⟨k1, by simpa using h.big, (k3 _ (by omega)).trans h.r0, one_set h.r1, (k3 _ (by omega)).trans h.r2, (k3 _ (by omega)).trans h.nb, h.kf.trans k2⟩
theorem EW.set2 {w : World} {D n : Nat} {c : Int} {W0 W : World} {d3 : Bool} (h : EW w D n c W0 d3 false W) (hD : w.heap.size + 6 ≤ D) : EW w D n c W0 d3 true (W.setCell ⟨w.heap.size + 2, 0, none⟩ (.int .i64 c)) := by
 obtain ⟨k1, k2, k3⟩ := setCell_low (D := D) (p := w.heap.size + 2) (o := 0) (u := .int .i64 c) h.later (by omega) (by omega)
 exact ⟨k1, by simpa using h.big, (k3 _ (by omega)).trans h.r0, (k3 _ (by omega)).trans h.r1, one_set h.r2, (k3 _ (by omega)).trans h.nb, h.kf.trans k2⟩
end Go.Proofs.YtkbedajbbakihaaGreatDoor
