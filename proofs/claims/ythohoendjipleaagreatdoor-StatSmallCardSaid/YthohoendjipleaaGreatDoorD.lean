/-
  Package stat: After. Conditions: the events' deeds are from Get to Tell; the counters are words; the parts of the load are from 0 to 2.
-/
import Derived.Test.YthohoendjipleaaGreatDoorC
import Derived.Deep.MidRow
import Derived.Deep.WholeRow
import Derived.Great.BuildSlice
namespace Go.Proofs.YthohoendjipleaaGreatDoor
open Go.RowKit

def upd (x : Nat → Int) (j : Nat) (v : Int) : Nat → Int := fun i => if i = j then v else x i
theorem upd_same (x : Nat → Int) (j : Nat) (v : Int) : upd x j v j = v := by simp [upd]
theorem upd_other (x : Nat → Int) (j i : Nat) (v : Int) (h : i ≠ j) : upd x j v i = x i := by simp [upd, h]
/-- the counters are words -/
def okX (x : Nat → Int) : Prop := ∀ j, 0 ≤ x j ∧ x j ≤ 18446744073709551615
theorem okX.upd {x : Nat → Int} (h : okX x) (j : Nat) (n : Int) (n0 : 0 ≤ n) : okX (upd x j (mo (x j) n)) := fun i => by
  unfold Go.Proofs.YthohoendjipleaaGreatDoor.upd
  split
  · exact mo_in _ _ (h j).1 n0
  · exact h i
/-- an event: deed, error, the pairs -/
structure Ev where
  d : Int
  er : Int
  p : Option Addr
  n : Nat
  c : Nat
/-- hits and refusals -/
def errX (x : Nat → Int) (er : Int) : Nat → Int := if er = 0 then upd x 7 (mo (x 7) 1) else if er = 10 ∨ er = 11 ∨ er = 12 then upd x 8 (mo (x 8) 1) else x
def cntX (x : Nat → Int) (j : Nat) (n : Int) : Nat → Int := upd x j (mo (x j) n)
/-- the counters behind an event -/
def evX (x : Nat → Int) (e : Ev) : Nat → Int :=
  if e.d = 6 then x else if e.d = 5 then cntX (errX (cntX x 6 1) e.er) 9 e.n else errX (cntX x (e.d.toNat + 1) 1) e.er
def okE (e : Ev) : Prop := 1 ≤ e.d ∧ e.d ≤ 6 ∧ e.n ≤ 1000000
theorem cntX_ok {x : Nat → Int} (h : okX x) (j : Nat) (n : Int) (n0 : 0 ≤ n) : okX (cntX x j n) := h.upd j n n0
theorem errX_ok {x : Nat → Int} (h : okX x) (er : Int) : okX (errX x er) := by
  unfold errX
  split
  · exact h.upd 7 1 (by omega)
  split
  · exact h.upd 8 1 (by omega)
  · exact h
theorem evX_ok {x : Nat → Int} (h : okX x) (e : Ev) : okX (evX x e) := by
  unfold evX
  split
  · exact h
  split
  · exact cntX_ok (errX_ok (cntX_ok h _ _ (by omega)) _) _ _ (by omega)
  · exact errX_ok (cntX_ok h _ _ (by omega)) _

/-- what After keeps: the Stat (block S), the result (block R), the map of counters (block M) -/
def AI (w V : World) (S R M : Nat) (x : Nat → Int) (a b : Nat) : Prop :=
  Later w V ∧ (w.heap.size ≤ S ∧ S < R ∧ R < M ∧ M < V.heap.size) ∧ (∀ j, j < 10 → V.cell? ⟨S, j, none⟩ = some (.int .u64 (x j))) ∧ V.cell? ⟨S, 10, none⟩ = some (.complex .f64 a b) ∧ (∀ j, j < 11 → V.frozen? ⟨S, j, none⟩ = false) ∧
  (∀ j, j < 10 → V.cell? ⟨R, j, none⟩ = some (.int .u64 0)) ∧ V.cell? ⟨R, 10, none⟩ = some (.complex .f64 0 0) ∧ (∀ j, j < 11 → V.frozen? ⟨R, j, none⟩ = false) ∧ V.heap[M]? = some (.map ctrE.toArray 5) ∧ okX x ∧ a ≤ W2 ∧ b ≤ W2
theorem AI.later {w V U : World} {S R M : Nat} {x : Nat → Int} {a b : Nat} (h : AI w V S R M x a b) (hl : Later V U) : AI w U S R M x a b := by
  obtain ⟨h1, ⟨h2, h3, h4, h5⟩, hs, hs10, hf, hr, hr10, hg, hm, hx, ha, hb⟩ := h
  have hS : S < V.heap.size := by omega
  have hR : R < V.heap.size := by omega
  exact ⟨h1.trans hl, ⟨h2, h3, h4, Nat.lt_of_lt_of_le h5 hl.size⟩, fun j hj => cell_at hl (hs j hj) hS, cell_at hl hs10 hS, fun j hj => frz_at hl (hf j hj) hS, fun j hj => cell_at hl (hr j hj) hR, cell_at hl hr10 hR, fun j hj => frz_at hl (hg j hj) hR, (Below.block hl M h5).trans hm, hx, ha, hb⟩
theorem set_other (V : World) (S j b o : Nat) (v : Value) (h : b ≠ S) : (V.setCell ⟨S, j, none⟩ v).cell? ⟨b, o, none⟩ = V.cell? ⟨b, o, none⟩ :=
  World.cell?_setCell_other V _ _ _ (by intro h'; injection h' with h'; exact h h'.symm)
theorem set_off (V : World) (S j i : Nat) (v : Value) (h : i ≠ j) : (V.setCell ⟨S, j, none⟩ v).cell? ⟨S, i, none⟩ = V.cell? ⟨S, i, none⟩ :=
  World.cell?_setCell_other V _ _ _ (by intro h'; injection h' with _ h'; exact h h'.symm)
theorem set_size (V : World) (p : Addr) (v : Value) : (V.setCell p v).heap.size = V.heap.size := by simp
theorem AI.count {w V : World} {S R M : Nat} {x : Nat → Int} {a b : Nat} (h : AI w V S R M x a b) (j : Nat) (hj : j < 10) (n : Int) (n0 : 0 ≤ n) : AI w (V.setCell ⟨S, j, none⟩ (.int .u64 (mo (x j) n))) S R M (cntX x j n) a b := by
  obtain ⟨h1, ⟨h2, h3, h4, h5⟩, hs, hs10, hf, hr, hr10, hg, hm, hx, ha, hb⟩ := h
  refine ⟨h1.setCell _ _ h2, ⟨h2, h3, h4, by rw [set_size]; exact h5⟩, fun i hi => ?_, ?_, fun i hi => by simpa using hf i hi, fun i hi => by rw [set_other _ _ _ _ _ _ (by omega)]; exact hr i hi, by rw [set_other _ _ _ _ _ _ (by omega)]; exact hr10, fun i hi => by simpa using hg i hi, ?_, cntX_ok hx j n n0, ha, hb⟩
  · by_cases e : i = j
    · subst e
      rw [cntX, upd_same]
      exact World.cell?_setCell_same V _ _ (hs i hi)
    · rw [set_off _ _ _ _ _ e, cntX, upd_other _ _ _ _ e]; exact hs i hi
  · rw [set_off _ _ _ _ _ (by omega)]; exact hs10
  · exact (Below.heap_setCell V _ _ M (by show M ≠ S; omega)).trans hm
theorem AI.load {w V : World} {S R M : Nat} {x : Nat → Int} {a b : Nat} (h : AI w V S R M x a b) (p q : Nat) (hp : p ≤ W2) (hq : q ≤ W2) : AI w (V.setCell ⟨S, 10, none⟩ (.complex .f64 p q)) S R M x p q := by
  obtain ⟨h1, ⟨h2, h3, h4, h5⟩, hs, hs10, hf, hr, hr10, hg, hm, hx, ha, hb⟩ := h
  refine ⟨h1.setCell _ _ h2, ⟨h2, h3, h4, by rw [set_size]; exact h5⟩, fun i hi => by rw [set_off _ _ _ _ _ (by omega)]; exact hs i hi, World.cell?_setCell_same V _ _ hs10, fun i hi => by simpa using hf i hi, fun i hi => by rw [set_other _ _ _ _ _ _ (by omega)]; exact hr i hi, by rw [set_other _ _ _ _ _ _ (by omega)]; exact hr10, fun i hi => by simpa using hg i hi, ?_, hx, hp, hq⟩
  exact (Below.heap_setCell V _ _ M (by show M ≠ S; omega)).trans hm
theorem AI.ok {w V : World} {S R M : Nat} {x : Nat → Int} {a b : Nat} (h : AI w V S R M x a b) : okX x ∧ a ≤ W2 ∧ b ≤ W2 := by
  obtain ⟨h1, ⟨h2, h3, h4, h5⟩, hs, hs10, hf, hr, hr10, hg, hm, hx, ha, hb⟩ := h
  exact ⟨hx, ha, hb⟩
theorem AI.cellS {w V : World} {S R M : Nat} {x : Nat → Int} {a b : Nat} (h : AI w V S R M x a b) (j : Nat) (hj : j < 10) : V.cell? ⟨S, j, none⟩ = some (.int .u64 (x j)) ∧ V.frozen? ⟨S, j, none⟩ = false :=
  ⟨h.2.2.1 j hj, h.2.2.2.2.1 j (by omega)⟩
theorem AI.cellL {w V : World} {S R M : Nat} {x : Nat → Int} {a b : Nat} (h : AI w V S R M x a b) : V.cell? ⟨S, 10, none⟩ = some (.complex .f64 a b) ∧ V.frozen? ⟨S, 10, none⟩ = false :=
  ⟨h.2.2.2.1, h.2.2.2.2.1 10 (by omega)⟩
theorem errX_0 (x : Nat → Int) : errX x 0 = cntX x 7 1 := rfl
theorem errX_r (x : Nat → Int) (er : Int) (h : er = 10 ∨ er = 11 ∨ er = 12) : errX x er = cntX x 8 1 := by
  unfold errX
  rw [if_neg (by omega), if_pos h]; rfl
theorem errX_o (x : Nat → Int) (er : Int) (h0 : ¬ er = 0) (h1 : ¬ (er = 10 ∨ er = 11 ∨ er = 12)) : errX x er = x := by
  unfold errX
  rw [if_neg h0, if_neg h1]
/-- the round's own copy of the event (block X) -/
def XI (V : World) (S X : Nat) (e : Ev) : Prop := (S < X ∧ X < V.heap.size) ∧ V.cell? ⟨X, 0, none⟩ = some (.int .i64 e.d) ∧ V.cell? ⟨X, 1, none⟩ = some (.int .i64 e.er) ∧ V.cell? ⟨X, 3, none⟩ = some (.slice e.p e.n e.c)
theorem XI.later {V U : World} {S X : Nat} {e : Ev} (h : XI V S X e) (hl : Later V U) : XI U S X e :=
  ⟨⟨h.1.1, Nat.lt_of_lt_of_le h.1.2 hl.size⟩, cell_at hl h.2.1 h.1.2, cell_at hl h.2.2.1 h.1.2, cell_at hl h.2.2.2 h.1.2⟩
theorem XI.set {V : World} {S X : Nat} {e : Ev} (h : XI V S X e) (j : Nat) (v : Value) : XI (V.setCell ⟨S, j, none⟩ v) S X e := by
  obtain ⟨⟨h1, h2⟩, h3, h4, h5⟩ := h
  exact ⟨⟨h1, by rw [set_size]; exact h2⟩, by rw [set_other _ _ _ _ _ _ (by omega)]; exact h3, by rw [set_other _ _ _ _ _ _ (by omega)]; exact h4, by rw [set_other _ _ _ _ _ _ (by omega)]; exact h5⟩

/-- cells 0 .. n of block R, stored one by one -/
def setRow (V : World) (R : Nat) (v : Nat → Value) : Nat → World
  | 0 => V
  | n + 1 => (setRow V R v n).setCell ⟨R, n, none⟩ (v n)
theorem setRow_cell (V : World) (R : Nat) (v : Nat → Value) (m : Nat) (h : ∀ j, j < m → ∃ u, V.cell? ⟨R, j, none⟩ = some u) : ∀ n, n ≤ m → ∀ j, (j < n → (setRow V R v n).cell? ⟨R, j, none⟩ = some (v j)) ∧ (n ≤ j → (setRow V R v n).cell? ⟨R, j, none⟩ = V.cell? ⟨R, j, none⟩) := by
  intro n
  induction n with
  | zero => exact fun _ j => ⟨fun hj => by omega, fun _ => rfl⟩
  | succ n ih =>
    intro hn j
    have ih := ih (by omega)
    constructor
    · intro hj
      by_cases e : j = n
      · subst e
        obtain ⟨u, hu⟩ := h j (by omega)
        exact World.cell?_setCell_same _ _ _ (((ih j).2 (Nat.le_refl _)).trans hu)
      · exact (set_off _ _ _ _ _ e).trans ((ih j).1 (by omega))
    · intro hj
      exact (set_off _ _ _ _ _ (by omega)).trans ((ih j).2 (by omega))
theorem setRow_later {w V : World} (h : Later w V) (R : Nat) (hR : w.heap.size ≤ R) (v : Nat → Value) : ∀ n, Later w (setRow V R v n) := by
  intro n
  induction n with
  | zero => exact h
  | succ n ih => exact ih.setCell _ _ hR
def rowV (x : Nat → Int) (a b : Nat) (j : Nat) : Value := if j = 10 then .complex .f64 a b else .int .u64 (x j)
/-- an event in memory: 18 cells -/
def EvAt (w : World) (E o : Nat) (e : Ev) : Prop :=
  w.cell? ⟨E, o, none⟩ = some (.int .i64 e.d) ∧ w.cell? ⟨E, o + 1, none⟩ = some (.int .i64 e.er) ∧ w.cell? ⟨E, o + 2, none⟩ = some (.string ⟨#[]⟩) ∧ w.cell? ⟨E, o + 3, none⟩ = some (.slice e.p e.n e.c) ∧
  w.cell? ⟨E, o + 4, none⟩ = some (.int .i64 0) ∧ w.cell? ⟨E, o + 5, none⟩ = some (.int .u32 0) ∧ w.cell? ⟨E, o + 6, none⟩ = some (.int .u8 0) ∧ (∀ j, j < 10 → w.cell? ⟨E, o + (7 + j), none⟩ = some (.int .u64 0)) ∧ w.cell? ⟨E, o + 17, none⟩ = some (.complex .f64 0 0)
theorem EvAt.later {w U : World} {E o : Nat} {e : Ev} (h : EvAt w E o e) (hl : Later w U) (hE : E < w.heap.size) : EvAt U E o e := by
  obtain ⟨h0, h1, h2, h3, h4, h5, h6, h7, h8⟩ := h
  exact ⟨cell_at hl h0 hE, cell_at hl h1 hE, cell_at hl h2 hE, cell_at hl h3 hE, cell_at hl h4 hE, cell_at hl h5 hE, cell_at hl h6 hE, fun j hj => cell_at hl (h7 j hj) hE, cell_at hl h8 hE⟩
/-- the Stat that a list of events makes -/
def runX (x : Nat → Int) (l : List Ev) : Nat → Int := l.foldl evX x
def runR (a : Nat) (l : List Ev) : Nat := l.foldl (fun a e => nextR a e.d) a
def runI (a : Nat) (l : List Ev) : Nat := l.foldl (fun a e => nextI a e.d) a
def RunIs (x0 : Nat → Int) (a0 b0 : Nat) (l : List Ev) (x : Nat → Int) (a b : Nat) : Prop := runX x0 l = x ∧ runR a0 l = a ∧ runI b0 l = b
def statV (x : Nat → Int) (a b : Nat) : Value := .agg #[.int .u64 (x 0), .int .u64 (x 1), .int .u64 (x 2), .int .u64 (x 3), .int .u64 (x 4), .int .u64 (x 5), .int .u64 (x 6), .int .u64 (x 7), .int .u64 (x 8), .int .u64 (x 9), .complex .f64 a b]
theorem RunIs.next {x0 : Nat → Int} {a0 b0 : Nat} {l : List Ev} {k : Nat} {x : Nat → Int} {a b : Nat} (h : RunIs x0 a0 b0 (l.take k) x a b) (hk : k < l.length) {e : Ev} (he : l[k]? = some e) : RunIs x0 a0 b0 (l.take (k + 1)) (evX x e) (nextR a e.d) (nextI b e.d) := by
  have : l.take (k + 1) = l.take k ++ [e] := by
    rw [List.take_succ_eq_append_getElem hk]
    rw [List.getElem?_eq_getElem hk] at he
    injection he with he
    rw [he]
  obtain ⟨h1, h2, h3⟩ := h
  rw [this]
  refine ⟨?_, ?_, ?_⟩
  · rw [runX, List.foldl_append]
    show evX (runX x0 (l.take k)) e = _
    rw [h1]
  · rw [runR, List.foldl_append]
    show nextR (runR a0 (l.take k)) e.d = _
    rw [h2]
  · rw [runI, List.foldl_append]
    show nextI (runI b0 (l.take k)) e.d = _
    rw [h3]

set_option maxRecDepth 100000 in
set_option maxHeartbeats 16000000 in
theorem After_is (E o : Nat) (l : List Ev) (cap : Nat) (hl : l.length ≤ 1000000) (hok : ∀ e ∈ l, okE e) (x0 : Nat → Int) (a0 b0 : Nat) (hx0 : okX x0) (ha0 : a0 ≤ W2) (hb0 : b0 ≤ W2) (w : World) (hE : E < w.heap.size)
    (hev : ∀ i e, l[i]? = some e → EvAt w E (o + i * 18) e) :
    Calls Tryz.prog 17 #[.agg #[.int .u64 (x0 0), .int .u64 (x0 1), .int .u64 (x0 2), .int .u64 (x0 3), .int .u64 (x0 4), .int .u64 (x0 5), .int .u64 (x0 6), .int .u64 (x0 7), .int .u64 (x0 8), .int .u64 (x0 9), .complex .f64 a0 b0], .slice (some ⟨E, o, none⟩) l.length cap] w fun e w' => e = .returned (.tuple #[statV (runX x0 l) (runR a0 l) (runI b0 l), .bool true]) ∧ Later w w' := by
  have HEV := Lib.hid hev
  have HOK := Lib.hid hok
  have HX0 := Lib.hid hx0
  clear hev hok hx0
  have hst := run_store_complex Tryz.prog
  go_enter Tryz.func17, Tryz.ntmps17
  go_wp2_with fail
  refine (counterOf_is _).mono ?_
  rintro e w1 ⟨rfl, hw1⟩
  have hI0 : AI w w1 w.heap.size (w.heap.size + 1) (w.heap.size + 1 + 1) x0 a0 b0 := by
    rw [hw1]
    refine ⟨((Later.refl w).alloc _).alloc _ |>.alloc _, ⟨Nat.le_refl _, by omega, by omega, by simp⟩, fun j hj => ?_, by go_cell, fun j hj => ?_, fun j hj => ?_, by go_cell, fun j hj => ?_, ?_, HX0.out, ha0, hb0⟩
    · have : j = 0 ∨ j = 1 ∨ j = 2 ∨ j = 3 ∨ j = 4 ∨ j = 5 ∨ j = 6 ∨ j = 7 ∨ j = 8 ∨ j = 9 := by omega
      rcases this with rfl | rfl | rfl | rfl | rfl | rfl | rfl | rfl | rfl | rfl <;> go_cell
    · have : j = 0 ∨ j = 1 ∨ j = 2 ∨ j = 3 ∨ j = 4 ∨ j = 5 ∨ j = 6 ∨ j = 7 ∨ j = 8 ∨ j = 9 ∨ j = 10 := by omega
      rcases this with rfl | rfl | rfl | rfl | rfl | rfl | rfl | rfl | rfl | rfl | rfl <;> go_cell
    · have : j = 0 ∨ j = 1 ∨ j = 2 ∨ j = 3 ∨ j = 4 ∨ j = 5 ∨ j = 6 ∨ j = 7 ∨ j = 8 ∨ j = 9 := by omega
      rcases this with rfl | rfl | rfl | rfl | rfl | rfl | rfl | rfl | rfl | rfl <;> go_cell
    · have : j = 0 ∨ j = 1 ∨ j = 2 ∨ j = 3 ∨ j = 4 ∨ j = 5 ∨ j = 6 ∨ j = 7 ∨ j = 8 ∨ j = 9 ∨ j = 10 := by omega
      rcases this with rfl | rfl | rfl | rfl | rfl | rfl | rfl | rfl | rfl | rfl | rfl <;> go_cell
    · have key : ∀ A B O : Obj, (((w.alloc A).alloc B).alloc O).heap[w.heap.size + 1 + 1]? = some O := fun A B O => by
        have := (MapKept.heap_alloc ((w.alloc A).alloc B) O).1
        rwa [show ((w.alloc A).alloc B).heap.size = w.heap.size + 1 + 1 by simp] at this
      exact key _ _ _
  have hM : ((w.alloc (Obj.cells #[.int .u64 (x0 0), .int .u64 (x0 1), .int .u64 (x0 2), .int .u64 (x0 3), .int .u64 (x0 4), .int .u64 (x0 5), .int .u64 (x0 6), .int .u64 (x0 7), .int .u64 (x0 8), .int .u64 (x0 9), .complex .f64 a0 b0] 27)).alloc (Obj.cells #[.int .u64 0, .int .u64 0, .int .u64 0, .int .u64 0, .int .u64 0, .int .u64 0, .int .u64 0, .int .u64 0, .int .u64 0, .int .u64 0, .complex .f64 0 0] 27)).heap.size = w.heap.size + 1 + 1 := by simp
  obtain ⟨M, hM'⟩ : ∃ M, w.heap.size + 1 + 1 = M := ⟨_, rfl⟩
  obtain ⟨R, hR'⟩ : ∃ R, w.heap.size + 1 = R := ⟨_, rfl⟩
  obtain ⟨S, hS'⟩ : ∃ S, w.heap.size = S := ⟨_, rfl⟩
  try rw [hM]
  rw [hM', hR', hS'] at hI0 ⊢
  clear hw1 hM hM' hR' hS'
  have h0 := hI0.2.2.1
  have k0 := h0 0 (by omega)
  have k1 := h0 1 (by omega)
  have k2 := h0 2 (by omega)
  have k3 := h0 3 (by omega)
  have k4 := h0 4 (by omega)
  have k5 := h0 5 (by omega)
  have k6 := h0 6 (by omega)
  have k7 := h0 7 (by omega)
  have k8 := h0 8 (by omega)
  have k9 := h0 9 (by omega)
  have k10 := hI0.2.2.2.1
  go_wp2_with fail
  refine (statIs_is _ _ _ _ _ _ _ _ _ _ a0 b0 ha0 hb0 _).mono ?_
  rintro e w2 ⟨rfl, hb2⟩
  have hI1 := hI0.later hb2
  clear hb2 hI0 h0 k0 k1 k2 k3 k4 k5 k6 k7 k8 k9 k10
  go_wp2_with fail
  have hlw1 := hI1.1
  clear hlw1
  go_loopw [7, 17] (fun v7 v17 wr => ∃ (j : Nat) (x : Nat → Int) (a b : Nat), j ≤ l.length ∧ v7 = .bool true ∧ v17 = .int .i64 j ∧ RunIs x0 a0 b0 (l.take j) x a b ∧ AI w wr S R M x a b) (fun _ v17 _ => l.length - (RowKit.intOf v17).toNat)
  case atStart => exact ⟨0, x0, a0, b0, by omega, rfl, rfl, ⟨rfl, rfl, rfl⟩, hI1⟩
  case round =>
    obtain ⟨j, x, a, b, hj, rfl, rfl, hrun, hI⟩ := hrel
    rename World => wk
    clear hI1
    have HRUN := Lib.hid hrun
    clear hrun
    by_cases hlt : j < l.length
    · have hd' : decide (j < l.length) = true := by simpa using hlt
      obtain ⟨e, he⟩ : ∃ e, l[j]? = some e := ⟨_, List.getElem?_eq_getElem hlt⟩
      obtain ⟨e1, e2, e3⟩ := HOK.out e (List.mem_of_getElem? he)
      have hv := (HEV.out j e he).later hI.1 hE
      have HE := Lib.hid he
      clear he
      obtain ⟨c0, c1, c2, c3, c4, c5, c6, c7, c17⟩ := hv
      have c7' : wk.cell? ⟨E, o + j * 18 + 7, none⟩ = some (.int .u64 0) := c7 0 (by omega)
      have c8' : wk.cell? ⟨E, o + j * 18 + 8, none⟩ = some (.int .u64 0) := c7 1 (by omega)
      have c9' : wk.cell? ⟨E, o + j * 18 + 9, none⟩ = some (.int .u64 0) := c7 2 (by omega)
      have c10' : wk.cell? ⟨E, o + j * 18 + 10, none⟩ = some (.int .u64 0) := c7 3 (by omega)
      have c11' : wk.cell? ⟨E, o + j * 18 + 11, none⟩ = some (.int .u64 0) := c7 4 (by omega)
      have c12' : wk.cell? ⟨E, o + j * 18 + 12, none⟩ = some (.int .u64 0) := c7 5 (by omega)
      have c13' : wk.cell? ⟨E, o + j * 18 + 13, none⟩ = some (.int .u64 0) := c7 6 (by omega)
      have c14' : wk.cell? ⟨E, o + j * 18 + 14, none⟩ = some (.int .u64 0) := c7 7 (by omega)
      have c15' : wk.cell? ⟨E, o + j * 18 + 15, none⟩ = some (.int .u64 0) := c7 8 (by omega)
      have c16' : wk.cell? ⟨E, o + j * 18 + 16, none⟩ = some (.int .u64 0) := c7 9 (by omega)
      clear c7
      have hS' := hI.2.1
      obtain ⟨d, er, p, n, c⟩ := e
      simp only at e1 e2 e3 c0 c1 c3
      have hdd : d = 1 ∨ d = 2 ∨ d = 3 ∨ d = 4 ∨ d = 5 ∨ d = 6 := by omega
      rcases hdd with rfl | rfl | rfl | rfl | rfl | rfl
      · as_aux_lemma =>
          have hlook : ∀ o : Obj, (Instr.lookup 100 (.map (some M)) (.int .i64 1) false).run Tryz.prog (wk.alloc o) = .ok (.func (.func 64) #[] #[]) (wk.alloc o) := fun o => by
            have hB : (wk.alloc o).heap[M]? = some (.map ctrE.toArray 5) := (Below.heap_alloc wk o M hI.2.1.2.2.2).trans hI.2.2.2.2.2.2.2.2.1
            exact run_look 100 102 Tryz.underlying100 M _ _ _ hB 1 0 _ (by simp [ctrE, Instr.findNow, Instr.sameNow])
          have hnq : ∀ W : World, (binOp .neq 102 (.func (.func 64) #[] #[]) Value.nilFunc).run Tryz.prog W = .ok (.bool true) W := fun W => by kernel_rfl
          have heq : ∀ W : World, (binOp .eql 102 (.func (.func 64) #[] #[]) Value.nilFunc).run Tryz.prog W = .ok (.bool false) W := fun W => by kernel_rfl
          have k10 := hI.cellL.1
          have hSk : S < wk.heap.size := by omega
          have hok := hI.ok
          have hrange : World.rangeAt wk E (o + j * 18) [.int .i64 1, .int .i64 er, .string ⟨#[]⟩, .slice p n c, .int .i64 0, .int .u32 0, .int .u8 0, .int .u64 0, .int .u64 0, .int .u64 0, .int .u64 0, .int .u64 0, .int .u64 0, .int .u64 0, .int .u64 0, .int .u64 0, .int .u64 0, .complex .f64 0 0] := fun jj v hv => by
            match jj, hv with
            | 0, hv => cases hv; exact c0
            | 1, hv => cases hv; exact c1
            | 2, hv => cases hv; exact c2
            | 3, hv => cases hv; exact c3
            | 4, hv => cases hv; exact c4
            | 5, hv => cases hv; exact c5
            | 6, hv => cases hv; exact c6
            | 7, hv => cases hv; exact c7'
            | 8, hv => cases hv; exact c8'
            | 9, hv => cases hv; exact c9'
            | 10, hv => cases hv; exact c10'
            | 11, hv => cases hv; exact c11'
            | 12, hv => cases hv; exact c12'
            | 13, hv => cases hv; exact c13'
            | 14, hv => cases hv; exact c14'
            | 15, hv => cases hv; exact c15'
            | 16, hv => cases hv; exact c16'
            | 17, hv => cases hv; exact c17
          have HRG := Lib.hid hrange
          clear hrange c0 c1 c2 c3 c4 c5 c6 c7' c8' c9' c10' c11' c12' c13' c14' c15' c16' c17
          go_wp2_with (first | (refine wpList_load_mid rfl 56 (.tmp 19) rfl E (o + j * 18) rfl [.int .i64 1, .int .i64 er, .string ⟨#[]⟩, .slice p n c, .int .i64 0, .int .u32 0, .int .u8 0, .int .u64 0, .int .u64 0, .int .u64 0, .int .u64 0, .int .u64 0, .int .u64 0, .int .u64 0, .int .u64 0, .int .u64 0, .int .u64 0, .complex .f64 0 0] _ HRG.out Tryz.underlying56 rfl (by kernel_rfl) ?_) | (refine wpList_store_rowTo rfl 56 (.tmp 9) (.tmp 20) rfl rfl wk.heap.size #[.int .i64 1, .int .i64 er, .string ⟨#[]⟩, .slice p n c, .int .i64 0, .int .u32 0, .int .u8 0, .int .u64 0, .int .u64 0, .int .u64 0, .int .u64 0, .int .u64 0, .int .u64 0, .int .u64 0, .int .u64 0, .int .u64 0, .int .u64 0, .complex .f64 0 0] rfl rfl 45 #[.int .i64 0, .int .i64 0, .string ⟨#[]⟩, .slice none 0 0, .int .i64 0, .int .u32 0, .int .u8 0, .int .u64 0, .int .u64 0, .int .u64 0, .int .u64 0, .int .u64 0, .int .u64 0, .int .u64 0, .int .u64 0, .int .u64 0, .int .u64 0, .complex .f64 0 0] (heap_alloc_last wk _) (by kernel_rfl) rfl (by kernel_rfl) ?_; rw [World.setRow_alloc_new]))
          refine (Next_is a b 1 hok.2.1 hok.2.2 _).mono ?_
          rintro ee w3 ⟨rfl, hb3⟩
          have hlC : Later wk (wk.alloc (Obj.cells #[.int .i64 1, .int .i64 er, .string ⟨#[]⟩, .slice p n c, .int .i64 0, .int .u32 0, .int .u8 0, .int .u64 0, .int .u64 0, .int .u64 0, .int .u64 0, .int .u64 0, .int .u64 0, .int .u64 0, .int .u64 0, .int .u64 0, .int .u64 0, .complex .f64 0 0] 56)) := (Later.refl wk).alloc _
          have hI3 := (hI.later hlC).later hb3
          have hX3 : XI w3 S wk.heap.size ⟨1, er, p, n, c⟩ := XI.later (V := wk.alloc (Obj.cells #[.int .i64 1, .int .i64 er, .string ⟨#[]⟩, .slice p n c, .int .i64 0, .int .u32 0, .int .u8 0, .int .u64 0, .int .u64 0, .int .u64 0, .int .u64 0, .int .u64 0, .int .u64 0, .int .u64 0, .int .u64 0, .int .u64 0, .int .u64 0, .complex .f64 0 0] 56)) ⟨⟨hSk, by simp⟩, by go_cell, by go_cell, by go_cell⟩ hb3
          have q10 := hI3.cellL
          have q10c := q10.1
          have q10f := q10.2
          have hne : S ≠ wk.heap.size := by omega
          clear hlook k10 HRG hI hb3 hlC q10
          have y0 := hX3.2.1
          have y1 := hX3.2.2.1
          have y3 := hX3.2.2.2
          go_wp2_with fail
          have hI4 := hI3.load (nextR a 1) (nextI b 1) (nextR_le a 1 hok.2.1) (nextI_le b 1 hok.2.2)
          have hX4 := hX3.set 10 (.complex .f64 (nextR a 1) (nextI b 1))
          clear hI3 hX3 y0 y1 y3 q10c q10f
          generalize w3.setCell ⟨S, 10, none⟩ (.complex .f64 (nextR a 1) (nextI b 1)) = V4 at *
          refine (counter1_is S _).mono ?_
          rintro ee wq ⟨rfl, rfl⟩
          go_wp2_with fail
          refine (count_is S 2 (x 2) 1 (hI4.ok.1 2).1 (hI4.ok.1 2).2 (by omega) (by omega) _ (hI4.cellS 2 (by omega)).1 (hI4.cellS 2 (by omega)).2).mono ?_
          rintro ee wq ⟨rfl, rfl⟩
          have hI5 := hI4.count 2 (by omega) 1 (by omega)
          have hX5 := hX4.set 2 (.int .u64 (mo (x 2) 1))
          clear hI4 hX4
          generalize V4.setCell ⟨S, 2, none⟩ (.int .u64 (mo (x 2) 1)) = V5 at *
          have y0 := hX5.2.1
          have y1 := hX5.2.2.1
          have y3 := hX5.2.2.2
          by_cases er0 : er = 0
          · subst er0
            go_wp2_with fail
            refine (count_is S 7 ((cntX x 2 1) 7) 1 (hI5.ok.1 7).1 (hI5.ok.1 7).2 (by omega) (by omega) _ (hI5.cellS 7 (by omega)).1 (hI5.cellS 7 (by omega)).2).mono ?_
            rintro ee wq ⟨rfl, rfl⟩
            have hI6 := hI5.count 7 (by omega) 1 (by omega)
            have hX6 := hX5.set 7 (.int .u64 (mo ((cntX x 2 1) 7) 1))
            clear hI5 hX5 y0 y1 y3
            generalize V5.setCell ⟨S, 7, none⟩ (.int .u64 (mo ((cntX x 2 1) 7) 1)) = V6 at *
            have y0 := hX6.2.1
            have y1 := hX6.2.2.1
            have y3 := hX6.2.2.2
            go_wp2_with fail
            go_roundw
            case rel => exact ⟨j + 1, _, _, _, by omega, rfl, by go_num, HRUN.out.next hlt HE.out, by rw [show evX x ⟨1, 0, p, n, c⟩ = (cntX (cntX x 2 1) 7 1) from by rw [show evX x ⟨1, 0, p, n, c⟩ = errX (cntX x 2 1) 0 from rfl, show errX (cntX x 2 1) 0 = (cntX (cntX x 2 1) 7 1) from rfl]]; exact hI6⟩
            case measure => simp [RowKit.intOf]; omega
          · by_cases hr : er = 10 ∨ er = 11 ∨ er = 12
            · have t0 : (er == 0) = false := by simp [er0]
              clear er0 t0
              rcases hr with rfl | rfl | rfl
              · go_wp2_with fail
                refine (count_is S 8 ((cntX x 2 1) 8) 1 (hI5.ok.1 8).1 (hI5.ok.1 8).2 (by omega) (by omega) _ (hI5.cellS 8 (by omega)).1 (hI5.cellS 8 (by omega)).2).mono ?_
                rintro ee wq ⟨rfl, rfl⟩
                have hI6 := hI5.count 8 (by omega) 1 (by omega)
                have hX6 := hX5.set 8 (.int .u64 (mo ((cntX x 2 1) 8) 1))
                clear hI5 hX5 y0 y1 y3
                generalize V5.setCell ⟨S, 8, none⟩ (.int .u64 (mo ((cntX x 2 1) 8) 1)) = V6 at *
                have y0 := hX6.2.1
                have y1 := hX6.2.2.1
                have y3 := hX6.2.2.2
                go_wp2_with fail
                go_roundw
                case rel => exact ⟨j + 1, _, _, _, by omega, rfl, by go_num, HRUN.out.next hlt HE.out, by rw [show evX x ⟨1, 10, p, n, c⟩ = (cntX (cntX x 2 1) 8 1) from by rw [show evX x ⟨1, 10, p, n, c⟩ = errX (cntX x 2 1) 10 from rfl, show errX (cntX x 2 1) 10 = (cntX (cntX x 2 1) 8 1) from errX_r _ 10 (by decide)]]; exact hI6⟩
                case measure => simp [RowKit.intOf]; omega
              · go_wp2_with fail
                refine (count_is S 8 ((cntX x 2 1) 8) 1 (hI5.ok.1 8).1 (hI5.ok.1 8).2 (by omega) (by omega) _ (hI5.cellS 8 (by omega)).1 (hI5.cellS 8 (by omega)).2).mono ?_
                rintro ee wq ⟨rfl, rfl⟩
                have hI6 := hI5.count 8 (by omega) 1 (by omega)
                have hX6 := hX5.set 8 (.int .u64 (mo ((cntX x 2 1) 8) 1))
                clear hI5 hX5 y0 y1 y3
                generalize V5.setCell ⟨S, 8, none⟩ (.int .u64 (mo ((cntX x 2 1) 8) 1)) = V6 at *
                have y0 := hX6.2.1
                have y1 := hX6.2.2.1
                have y3 := hX6.2.2.2
                go_wp2_with fail
                go_roundw
                case rel => exact ⟨j + 1, _, _, _, by omega, rfl, by go_num, HRUN.out.next hlt HE.out, by rw [show evX x ⟨1, 11, p, n, c⟩ = (cntX (cntX x 2 1) 8 1) from by rw [show evX x ⟨1, 11, p, n, c⟩ = errX (cntX x 2 1) 11 from rfl, show errX (cntX x 2 1) 11 = (cntX (cntX x 2 1) 8 1) from errX_r _ 11 (by decide)]]; exact hI6⟩
                case measure => simp [RowKit.intOf]; omega
              · go_wp2_with fail
                refine (count_is S 8 ((cntX x 2 1) 8) 1 (hI5.ok.1 8).1 (hI5.ok.1 8).2 (by omega) (by omega) _ (hI5.cellS 8 (by omega)).1 (hI5.cellS 8 (by omega)).2).mono ?_
                rintro ee wq ⟨rfl, rfl⟩
                have hI6 := hI5.count 8 (by omega) 1 (by omega)
                have hX6 := hX5.set 8 (.int .u64 (mo ((cntX x 2 1) 8) 1))
                clear hI5 hX5 y0 y1 y3
                generalize V5.setCell ⟨S, 8, none⟩ (.int .u64 (mo ((cntX x 2 1) 8) 1)) = V6 at *
                have y0 := hX6.2.1
                have y1 := hX6.2.2.1
                have y3 := hX6.2.2.2
                go_wp2_with fail
                go_roundw
                case rel => exact ⟨j + 1, _, _, _, by omega, rfl, by go_num, HRUN.out.next hlt HE.out, by rw [show evX x ⟨1, 12, p, n, c⟩ = (cntX (cntX x 2 1) 8 1) from by rw [show evX x ⟨1, 12, p, n, c⟩ = errX (cntX x 2 1) 12 from rfl, show errX (cntX x 2 1) 12 = (cntX (cntX x 2 1) 8 1) from errX_r _ 12 (by decide)]]; exact hI6⟩
                case measure => simp [RowKit.intOf]; omega
            · have t0 : (er == 0) = false := by simp [er0]
              have t1 : (er == 10) = false := by simp; omega
              have t2 : (er == 11) = false := by simp; omega
              have t3 : (er == 12) = false := by simp; omega
              have HR := Lib.hid (And.intro er0 hr)
              clear er0 hr
              go_wp2_with fail
              go_roundw
              case rel => exact ⟨j + 1, _, _, _, by omega, rfl, by go_num, HRUN.out.next hlt HE.out, by rw [show evX x ⟨1, er, p, n, c⟩ = (cntX x 2 1) from by rw [show evX x ⟨1, er, p, n, c⟩ = errX (cntX x 2 1) er from rfl, show errX (cntX x 2 1) er = (cntX x 2 1) from errX_o _ er HR.out.1 HR.out.2]]; exact hI5⟩
              case measure => simp [RowKit.intOf]; omega
      · as_aux_lemma =>
          have hlook : ∀ o : Obj, (Instr.lookup 100 (.map (some M)) (.int .i64 2) false).run Tryz.prog (wk.alloc o) = .ok (.func (.func 65) #[] #[]) (wk.alloc o) := fun o => by
            have hB : (wk.alloc o).heap[M]? = some (.map ctrE.toArray 5) := (Below.heap_alloc wk o M hI.2.1.2.2.2).trans hI.2.2.2.2.2.2.2.2.1
            exact run_look 100 102 Tryz.underlying100 M _ _ _ hB 2 1 _ (by simp [ctrE, Instr.findNow, Instr.sameNow])
          have hnq : ∀ W : World, (binOp .neq 102 (.func (.func 65) #[] #[]) Value.nilFunc).run Tryz.prog W = .ok (.bool true) W := fun W => by kernel_rfl
          have heq : ∀ W : World, (binOp .eql 102 (.func (.func 65) #[] #[]) Value.nilFunc).run Tryz.prog W = .ok (.bool false) W := fun W => by kernel_rfl
          have k10 := hI.cellL.1
          have hSk : S < wk.heap.size := by omega
          have hok := hI.ok
          have hrange : World.rangeAt wk E (o + j * 18) [.int .i64 2, .int .i64 er, .string ⟨#[]⟩, .slice p n c, .int .i64 0, .int .u32 0, .int .u8 0, .int .u64 0, .int .u64 0, .int .u64 0, .int .u64 0, .int .u64 0, .int .u64 0, .int .u64 0, .int .u64 0, .int .u64 0, .int .u64 0, .complex .f64 0 0] := fun jj v hv => by
            match jj, hv with
            | 0, hv => cases hv; exact c0
            | 1, hv => cases hv; exact c1
            | 2, hv => cases hv; exact c2
            | 3, hv => cases hv; exact c3
            | 4, hv => cases hv; exact c4
            | 5, hv => cases hv; exact c5
            | 6, hv => cases hv; exact c6
            | 7, hv => cases hv; exact c7'
            | 8, hv => cases hv; exact c8'
            | 9, hv => cases hv; exact c9'
            | 10, hv => cases hv; exact c10'
            | 11, hv => cases hv; exact c11'
            | 12, hv => cases hv; exact c12'
            | 13, hv => cases hv; exact c13'
            | 14, hv => cases hv; exact c14'
            | 15, hv => cases hv; exact c15'
            | 16, hv => cases hv; exact c16'
            | 17, hv => cases hv; exact c17
          have HRG := Lib.hid hrange
          clear hrange c0 c1 c2 c3 c4 c5 c6 c7' c8' c9' c10' c11' c12' c13' c14' c15' c16' c17
          go_wp2_with (first | (refine wpList_load_mid rfl 56 (.tmp 19) rfl E (o + j * 18) rfl [.int .i64 2, .int .i64 er, .string ⟨#[]⟩, .slice p n c, .int .i64 0, .int .u32 0, .int .u8 0, .int .u64 0, .int .u64 0, .int .u64 0, .int .u64 0, .int .u64 0, .int .u64 0, .int .u64 0, .int .u64 0, .int .u64 0, .int .u64 0, .complex .f64 0 0] _ HRG.out Tryz.underlying56 rfl (by kernel_rfl) ?_) | (refine wpList_store_rowTo rfl 56 (.tmp 9) (.tmp 20) rfl rfl wk.heap.size #[.int .i64 2, .int .i64 er, .string ⟨#[]⟩, .slice p n c, .int .i64 0, .int .u32 0, .int .u8 0, .int .u64 0, .int .u64 0, .int .u64 0, .int .u64 0, .int .u64 0, .int .u64 0, .int .u64 0, .int .u64 0, .int .u64 0, .int .u64 0, .complex .f64 0 0] rfl rfl 45 #[.int .i64 0, .int .i64 0, .string ⟨#[]⟩, .slice none 0 0, .int .i64 0, .int .u32 0, .int .u8 0, .int .u64 0, .int .u64 0, .int .u64 0, .int .u64 0, .int .u64 0, .int .u64 0, .int .u64 0, .int .u64 0, .int .u64 0, .int .u64 0, .complex .f64 0 0] (heap_alloc_last wk _) (by kernel_rfl) rfl (by kernel_rfl) ?_; rw [World.setRow_alloc_new]))
          refine (Next_is a b 2 hok.2.1 hok.2.2 _).mono ?_
          rintro ee w3 ⟨rfl, hb3⟩
          have hlC : Later wk (wk.alloc (Obj.cells #[.int .i64 2, .int .i64 er, .string ⟨#[]⟩, .slice p n c, .int .i64 0, .int .u32 0, .int .u8 0, .int .u64 0, .int .u64 0, .int .u64 0, .int .u64 0, .int .u64 0, .int .u64 0, .int .u64 0, .int .u64 0, .int .u64 0, .int .u64 0, .complex .f64 0 0] 56)) := (Later.refl wk).alloc _
          have hI3 := (hI.later hlC).later hb3
          have hX3 : XI w3 S wk.heap.size ⟨2, er, p, n, c⟩ := XI.later (V := wk.alloc (Obj.cells #[.int .i64 2, .int .i64 er, .string ⟨#[]⟩, .slice p n c, .int .i64 0, .int .u32 0, .int .u8 0, .int .u64 0, .int .u64 0, .int .u64 0, .int .u64 0, .int .u64 0, .int .u64 0, .int .u64 0, .int .u64 0, .int .u64 0, .int .u64 0, .complex .f64 0 0] 56)) ⟨⟨hSk, by simp⟩, by go_cell, by go_cell, by go_cell⟩ hb3
          have q10 := hI3.cellL
          have q10c := q10.1
          have q10f := q10.2
          have hne : S ≠ wk.heap.size := by omega
          clear hlook k10 HRG hI hb3 hlC q10
          have y0 := hX3.2.1
          have y1 := hX3.2.2.1
          have y3 := hX3.2.2.2
          go_wp2_with fail
          have hI4 := hI3.load (nextR a 2) (nextI b 2) (nextR_le a 2 hok.2.1) (nextI_le b 2 hok.2.2)
          have hX4 := hX3.set 10 (.complex .f64 (nextR a 2) (nextI b 2))
          clear hI3 hX3 y0 y1 y3 q10c q10f
          generalize w3.setCell ⟨S, 10, none⟩ (.complex .f64 (nextR a 2) (nextI b 2)) = V4 at *
          refine (counter2_is S _).mono ?_
          rintro ee wq ⟨rfl, rfl⟩
          go_wp2_with fail
          refine (count_is S 3 (x 3) 1 (hI4.ok.1 3).1 (hI4.ok.1 3).2 (by omega) (by omega) _ (hI4.cellS 3 (by omega)).1 (hI4.cellS 3 (by omega)).2).mono ?_
          rintro ee wq ⟨rfl, rfl⟩
          have hI5 := hI4.count 3 (by omega) 1 (by omega)
          have hX5 := hX4.set 3 (.int .u64 (mo (x 3) 1))
          clear hI4 hX4
          generalize V4.setCell ⟨S, 3, none⟩ (.int .u64 (mo (x 3) 1)) = V5 at *
          have y0 := hX5.2.1
          have y1 := hX5.2.2.1
          have y3 := hX5.2.2.2
          by_cases er0 : er = 0
          · subst er0
            go_wp2_with fail
            refine (count_is S 7 ((cntX x 3 1) 7) 1 (hI5.ok.1 7).1 (hI5.ok.1 7).2 (by omega) (by omega) _ (hI5.cellS 7 (by omega)).1 (hI5.cellS 7 (by omega)).2).mono ?_
            rintro ee wq ⟨rfl, rfl⟩
            have hI6 := hI5.count 7 (by omega) 1 (by omega)
            have hX6 := hX5.set 7 (.int .u64 (mo ((cntX x 3 1) 7) 1))
            clear hI5 hX5 y0 y1 y3
            generalize V5.setCell ⟨S, 7, none⟩ (.int .u64 (mo ((cntX x 3 1) 7) 1)) = V6 at *
            have y0 := hX6.2.1
            have y1 := hX6.2.2.1
            have y3 := hX6.2.2.2
            go_wp2_with fail
            go_roundw
            case rel => exact ⟨j + 1, _, _, _, by omega, rfl, by go_num, HRUN.out.next hlt HE.out, by rw [show evX x ⟨2, 0, p, n, c⟩ = (cntX (cntX x 3 1) 7 1) from by rw [show evX x ⟨2, 0, p, n, c⟩ = errX (cntX x 3 1) 0 from rfl, show errX (cntX x 3 1) 0 = (cntX (cntX x 3 1) 7 1) from rfl]]; exact hI6⟩
            case measure => simp [RowKit.intOf]; omega
          · by_cases hr : er = 10 ∨ er = 11 ∨ er = 12
            · have t0 : (er == 0) = false := by simp [er0]
              clear er0 t0
              rcases hr with rfl | rfl | rfl
              · go_wp2_with fail
                refine (count_is S 8 ((cntX x 3 1) 8) 1 (hI5.ok.1 8).1 (hI5.ok.1 8).2 (by omega) (by omega) _ (hI5.cellS 8 (by omega)).1 (hI5.cellS 8 (by omega)).2).mono ?_
                rintro ee wq ⟨rfl, rfl⟩
                have hI6 := hI5.count 8 (by omega) 1 (by omega)
                have hX6 := hX5.set 8 (.int .u64 (mo ((cntX x 3 1) 8) 1))
                clear hI5 hX5 y0 y1 y3
                generalize V5.setCell ⟨S, 8, none⟩ (.int .u64 (mo ((cntX x 3 1) 8) 1)) = V6 at *
                have y0 := hX6.2.1
                have y1 := hX6.2.2.1
                have y3 := hX6.2.2.2
                go_wp2_with fail
                go_roundw
                case rel => exact ⟨j + 1, _, _, _, by omega, rfl, by go_num, HRUN.out.next hlt HE.out, by rw [show evX x ⟨2, 10, p, n, c⟩ = (cntX (cntX x 3 1) 8 1) from by rw [show evX x ⟨2, 10, p, n, c⟩ = errX (cntX x 3 1) 10 from rfl, show errX (cntX x 3 1) 10 = (cntX (cntX x 3 1) 8 1) from errX_r _ 10 (by decide)]]; exact hI6⟩
                case measure => simp [RowKit.intOf]; omega
              · go_wp2_with fail
                refine (count_is S 8 ((cntX x 3 1) 8) 1 (hI5.ok.1 8).1 (hI5.ok.1 8).2 (by omega) (by omega) _ (hI5.cellS 8 (by omega)).1 (hI5.cellS 8 (by omega)).2).mono ?_
                rintro ee wq ⟨rfl, rfl⟩
                have hI6 := hI5.count 8 (by omega) 1 (by omega)
                have hX6 := hX5.set 8 (.int .u64 (mo ((cntX x 3 1) 8) 1))
                clear hI5 hX5 y0 y1 y3
                generalize V5.setCell ⟨S, 8, none⟩ (.int .u64 (mo ((cntX x 3 1) 8) 1)) = V6 at *
                have y0 := hX6.2.1
                have y1 := hX6.2.2.1
                have y3 := hX6.2.2.2
                go_wp2_with fail
                go_roundw
                case rel => exact ⟨j + 1, _, _, _, by omega, rfl, by go_num, HRUN.out.next hlt HE.out, by rw [show evX x ⟨2, 11, p, n, c⟩ = (cntX (cntX x 3 1) 8 1) from by rw [show evX x ⟨2, 11, p, n, c⟩ = errX (cntX x 3 1) 11 from rfl, show errX (cntX x 3 1) 11 = (cntX (cntX x 3 1) 8 1) from errX_r _ 11 (by decide)]]; exact hI6⟩
                case measure => simp [RowKit.intOf]; omega
              · go_wp2_with fail
                refine (count_is S 8 ((cntX x 3 1) 8) 1 (hI5.ok.1 8).1 (hI5.ok.1 8).2 (by omega) (by omega) _ (hI5.cellS 8 (by omega)).1 (hI5.cellS 8 (by omega)).2).mono ?_
                rintro ee wq ⟨rfl, rfl⟩
                have hI6 := hI5.count 8 (by omega) 1 (by omega)
                have hX6 := hX5.set 8 (.int .u64 (mo ((cntX x 3 1) 8) 1))
                clear hI5 hX5 y0 y1 y3
                generalize V5.setCell ⟨S, 8, none⟩ (.int .u64 (mo ((cntX x 3 1) 8) 1)) = V6 at *
                have y0 := hX6.2.1
                have y1 := hX6.2.2.1
                have y3 := hX6.2.2.2
                go_wp2_with fail
                go_roundw
                case rel => exact ⟨j + 1, _, _, _, by omega, rfl, by go_num, HRUN.out.next hlt HE.out, by rw [show evX x ⟨2, 12, p, n, c⟩ = (cntX (cntX x 3 1) 8 1) from by rw [show evX x ⟨2, 12, p, n, c⟩ = errX (cntX x 3 1) 12 from rfl, show errX (cntX x 3 1) 12 = (cntX (cntX x 3 1) 8 1) from errX_r _ 12 (by decide)]]; exact hI6⟩
                case measure => simp [RowKit.intOf]; omega
            · have t0 : (er == 0) = false := by simp [er0]
              have t1 : (er == 10) = false := by simp; omega
              have t2 : (er == 11) = false := by simp; omega
              have t3 : (er == 12) = false := by simp; omega
              have HR := Lib.hid (And.intro er0 hr)
              clear er0 hr
              go_wp2_with fail
              go_roundw
              case rel => exact ⟨j + 1, _, _, _, by omega, rfl, by go_num, HRUN.out.next hlt HE.out, by rw [show evX x ⟨2, er, p, n, c⟩ = (cntX x 3 1) from by rw [show evX x ⟨2, er, p, n, c⟩ = errX (cntX x 3 1) er from rfl, show errX (cntX x 3 1) er = (cntX x 3 1) from errX_o _ er HR.out.1 HR.out.2]]; exact hI5⟩
              case measure => simp [RowKit.intOf]; omega
      · as_aux_lemma =>
          have hlook : ∀ o : Obj, (Instr.lookup 100 (.map (some M)) (.int .i64 3) false).run Tryz.prog (wk.alloc o) = .ok (.func (.func 66) #[] #[]) (wk.alloc o) := fun o => by
            have hB : (wk.alloc o).heap[M]? = some (.map ctrE.toArray 5) := (Below.heap_alloc wk o M hI.2.1.2.2.2).trans hI.2.2.2.2.2.2.2.2.1
            exact run_look 100 102 Tryz.underlying100 M _ _ _ hB 3 2 _ (by simp [ctrE, Instr.findNow, Instr.sameNow])
          have hnq : ∀ W : World, (binOp .neq 102 (.func (.func 66) #[] #[]) Value.nilFunc).run Tryz.prog W = .ok (.bool true) W := fun W => by kernel_rfl
          have heq : ∀ W : World, (binOp .eql 102 (.func (.func 66) #[] #[]) Value.nilFunc).run Tryz.prog W = .ok (.bool false) W := fun W => by kernel_rfl
          have k10 := hI.cellL.1
          have hSk : S < wk.heap.size := by omega
          have hok := hI.ok
          have hrange : World.rangeAt wk E (o + j * 18) [.int .i64 3, .int .i64 er, .string ⟨#[]⟩, .slice p n c, .int .i64 0, .int .u32 0, .int .u8 0, .int .u64 0, .int .u64 0, .int .u64 0, .int .u64 0, .int .u64 0, .int .u64 0, .int .u64 0, .int .u64 0, .int .u64 0, .int .u64 0, .complex .f64 0 0] := fun jj v hv => by
            match jj, hv with
            | 0, hv => cases hv; exact c0
            | 1, hv => cases hv; exact c1
            | 2, hv => cases hv; exact c2
            | 3, hv => cases hv; exact c3
            | 4, hv => cases hv; exact c4
            | 5, hv => cases hv; exact c5
            | 6, hv => cases hv; exact c6
            | 7, hv => cases hv; exact c7'
            | 8, hv => cases hv; exact c8'
            | 9, hv => cases hv; exact c9'
            | 10, hv => cases hv; exact c10'
            | 11, hv => cases hv; exact c11'
            | 12, hv => cases hv; exact c12'
            | 13, hv => cases hv; exact c13'
            | 14, hv => cases hv; exact c14'
            | 15, hv => cases hv; exact c15'
            | 16, hv => cases hv; exact c16'
            | 17, hv => cases hv; exact c17
          have HRG := Lib.hid hrange
          clear hrange c0 c1 c2 c3 c4 c5 c6 c7' c8' c9' c10' c11' c12' c13' c14' c15' c16' c17
          go_wp2_with (first | (refine wpList_load_mid rfl 56 (.tmp 19) rfl E (o + j * 18) rfl [.int .i64 3, .int .i64 er, .string ⟨#[]⟩, .slice p n c, .int .i64 0, .int .u32 0, .int .u8 0, .int .u64 0, .int .u64 0, .int .u64 0, .int .u64 0, .int .u64 0, .int .u64 0, .int .u64 0, .int .u64 0, .int .u64 0, .int .u64 0, .complex .f64 0 0] _ HRG.out Tryz.underlying56 rfl (by kernel_rfl) ?_) | (refine wpList_store_rowTo rfl 56 (.tmp 9) (.tmp 20) rfl rfl wk.heap.size #[.int .i64 3, .int .i64 er, .string ⟨#[]⟩, .slice p n c, .int .i64 0, .int .u32 0, .int .u8 0, .int .u64 0, .int .u64 0, .int .u64 0, .int .u64 0, .int .u64 0, .int .u64 0, .int .u64 0, .int .u64 0, .int .u64 0, .int .u64 0, .complex .f64 0 0] rfl rfl 45 #[.int .i64 0, .int .i64 0, .string ⟨#[]⟩, .slice none 0 0, .int .i64 0, .int .u32 0, .int .u8 0, .int .u64 0, .int .u64 0, .int .u64 0, .int .u64 0, .int .u64 0, .int .u64 0, .int .u64 0, .int .u64 0, .int .u64 0, .int .u64 0, .complex .f64 0 0] (heap_alloc_last wk _) (by kernel_rfl) rfl (by kernel_rfl) ?_; rw [World.setRow_alloc_new]))
          refine (Next_is a b 3 hok.2.1 hok.2.2 _).mono ?_
          rintro ee w3 ⟨rfl, hb3⟩
          have hlC : Later wk (wk.alloc (Obj.cells #[.int .i64 3, .int .i64 er, .string ⟨#[]⟩, .slice p n c, .int .i64 0, .int .u32 0, .int .u8 0, .int .u64 0, .int .u64 0, .int .u64 0, .int .u64 0, .int .u64 0, .int .u64 0, .int .u64 0, .int .u64 0, .int .u64 0, .int .u64 0, .complex .f64 0 0] 56)) := (Later.refl wk).alloc _
          have hI3 := (hI.later hlC).later hb3
          have hX3 : XI w3 S wk.heap.size ⟨3, er, p, n, c⟩ := XI.later (V := wk.alloc (Obj.cells #[.int .i64 3, .int .i64 er, .string ⟨#[]⟩, .slice p n c, .int .i64 0, .int .u32 0, .int .u8 0, .int .u64 0, .int .u64 0, .int .u64 0, .int .u64 0, .int .u64 0, .int .u64 0, .int .u64 0, .int .u64 0, .int .u64 0, .int .u64 0, .complex .f64 0 0] 56)) ⟨⟨hSk, by simp⟩, by go_cell, by go_cell, by go_cell⟩ hb3
          have q10 := hI3.cellL
          have q10c := q10.1
          have q10f := q10.2
          have hne : S ≠ wk.heap.size := by omega
          clear hlook k10 HRG hI hb3 hlC q10
          have y0 := hX3.2.1
          have y1 := hX3.2.2.1
          have y3 := hX3.2.2.2
          go_wp2_with fail
          have hI4 := hI3.load (nextR a 3) (nextI b 3) (nextR_le a 3 hok.2.1) (nextI_le b 3 hok.2.2)
          have hX4 := hX3.set 10 (.complex .f64 (nextR a 3) (nextI b 3))
          clear hI3 hX3 y0 y1 y3 q10c q10f
          generalize w3.setCell ⟨S, 10, none⟩ (.complex .f64 (nextR a 3) (nextI b 3)) = V4 at *
          refine (counter3_is S _).mono ?_
          rintro ee wq ⟨rfl, rfl⟩
          go_wp2_with fail
          refine (count_is S 4 (x 4) 1 (hI4.ok.1 4).1 (hI4.ok.1 4).2 (by omega) (by omega) _ (hI4.cellS 4 (by omega)).1 (hI4.cellS 4 (by omega)).2).mono ?_
          rintro ee wq ⟨rfl, rfl⟩
          have hI5 := hI4.count 4 (by omega) 1 (by omega)
          have hX5 := hX4.set 4 (.int .u64 (mo (x 4) 1))
          clear hI4 hX4
          generalize V4.setCell ⟨S, 4, none⟩ (.int .u64 (mo (x 4) 1)) = V5 at *
          have y0 := hX5.2.1
          have y1 := hX5.2.2.1
          have y3 := hX5.2.2.2
          by_cases er0 : er = 0
          · subst er0
            go_wp2_with fail
            refine (count_is S 7 ((cntX x 4 1) 7) 1 (hI5.ok.1 7).1 (hI5.ok.1 7).2 (by omega) (by omega) _ (hI5.cellS 7 (by omega)).1 (hI5.cellS 7 (by omega)).2).mono ?_
            rintro ee wq ⟨rfl, rfl⟩
            have hI6 := hI5.count 7 (by omega) 1 (by omega)
            have hX6 := hX5.set 7 (.int .u64 (mo ((cntX x 4 1) 7) 1))
            clear hI5 hX5 y0 y1 y3
            generalize V5.setCell ⟨S, 7, none⟩ (.int .u64 (mo ((cntX x 4 1) 7) 1)) = V6 at *
            have y0 := hX6.2.1
            have y1 := hX6.2.2.1
            have y3 := hX6.2.2.2
            go_wp2_with fail
            go_roundw
            case rel => exact ⟨j + 1, _, _, _, by omega, rfl, by go_num, HRUN.out.next hlt HE.out, by rw [show evX x ⟨3, 0, p, n, c⟩ = (cntX (cntX x 4 1) 7 1) from by rw [show evX x ⟨3, 0, p, n, c⟩ = errX (cntX x 4 1) 0 from rfl, show errX (cntX x 4 1) 0 = (cntX (cntX x 4 1) 7 1) from rfl]]; exact hI6⟩
            case measure => simp [RowKit.intOf]; omega
          · by_cases hr : er = 10 ∨ er = 11 ∨ er = 12
            · have t0 : (er == 0) = false := by simp [er0]
              clear er0 t0
              rcases hr with rfl | rfl | rfl
              · go_wp2_with fail
                refine (count_is S 8 ((cntX x 4 1) 8) 1 (hI5.ok.1 8).1 (hI5.ok.1 8).2 (by omega) (by omega) _ (hI5.cellS 8 (by omega)).1 (hI5.cellS 8 (by omega)).2).mono ?_
                rintro ee wq ⟨rfl, rfl⟩
                have hI6 := hI5.count 8 (by omega) 1 (by omega)
                have hX6 := hX5.set 8 (.int .u64 (mo ((cntX x 4 1) 8) 1))
                clear hI5 hX5 y0 y1 y3
                generalize V5.setCell ⟨S, 8, none⟩ (.int .u64 (mo ((cntX x 4 1) 8) 1)) = V6 at *
                have y0 := hX6.2.1
                have y1 := hX6.2.2.1
                have y3 := hX6.2.2.2
                go_wp2_with fail
                go_roundw
                case rel => exact ⟨j + 1, _, _, _, by omega, rfl, by go_num, HRUN.out.next hlt HE.out, by rw [show evX x ⟨3, 10, p, n, c⟩ = (cntX (cntX x 4 1) 8 1) from by rw [show evX x ⟨3, 10, p, n, c⟩ = errX (cntX x 4 1) 10 from rfl, show errX (cntX x 4 1) 10 = (cntX (cntX x 4 1) 8 1) from errX_r _ 10 (by decide)]]; exact hI6⟩
                case measure => simp [RowKit.intOf]; omega
              · go_wp2_with fail
                refine (count_is S 8 ((cntX x 4 1) 8) 1 (hI5.ok.1 8).1 (hI5.ok.1 8).2 (by omega) (by omega) _ (hI5.cellS 8 (by omega)).1 (hI5.cellS 8 (by omega)).2).mono ?_
                rintro ee wq ⟨rfl, rfl⟩
                have hI6 := hI5.count 8 (by omega) 1 (by omega)
                have hX6 := hX5.set 8 (.int .u64 (mo ((cntX x 4 1) 8) 1))
                clear hI5 hX5 y0 y1 y3
                generalize V5.setCell ⟨S, 8, none⟩ (.int .u64 (mo ((cntX x 4 1) 8) 1)) = V6 at *
                have y0 := hX6.2.1
                have y1 := hX6.2.2.1
                have y3 := hX6.2.2.2
                go_wp2_with fail
                go_roundw
                case rel => exact ⟨j + 1, _, _, _, by omega, rfl, by go_num, HRUN.out.next hlt HE.out, by rw [show evX x ⟨3, 11, p, n, c⟩ = (cntX (cntX x 4 1) 8 1) from by rw [show evX x ⟨3, 11, p, n, c⟩ = errX (cntX x 4 1) 11 from rfl, show errX (cntX x 4 1) 11 = (cntX (cntX x 4 1) 8 1) from errX_r _ 11 (by decide)]]; exact hI6⟩
                case measure => simp [RowKit.intOf]; omega
              · go_wp2_with fail
                refine (count_is S 8 ((cntX x 4 1) 8) 1 (hI5.ok.1 8).1 (hI5.ok.1 8).2 (by omega) (by omega) _ (hI5.cellS 8 (by omega)).1 (hI5.cellS 8 (by omega)).2).mono ?_
                rintro ee wq ⟨rfl, rfl⟩
                have hI6 := hI5.count 8 (by omega) 1 (by omega)
                have hX6 := hX5.set 8 (.int .u64 (mo ((cntX x 4 1) 8) 1))
                clear hI5 hX5 y0 y1 y3
                generalize V5.setCell ⟨S, 8, none⟩ (.int .u64 (mo ((cntX x 4 1) 8) 1)) = V6 at *
                have y0 := hX6.2.1
                have y1 := hX6.2.2.1
                have y3 := hX6.2.2.2
                go_wp2_with fail
                go_roundw
                case rel => exact ⟨j + 1, _, _, _, by omega, rfl, by go_num, HRUN.out.next hlt HE.out, by rw [show evX x ⟨3, 12, p, n, c⟩ = (cntX (cntX x 4 1) 8 1) from by rw [show evX x ⟨3, 12, p, n, c⟩ = errX (cntX x 4 1) 12 from rfl, show errX (cntX x 4 1) 12 = (cntX (cntX x 4 1) 8 1) from errX_r _ 12 (by decide)]]; exact hI6⟩
                case measure => simp [RowKit.intOf]; omega
            · have t0 : (er == 0) = false := by simp [er0]
              have t1 : (er == 10) = false := by simp; omega
              have t2 : (er == 11) = false := by simp; omega
              have t3 : (er == 12) = false := by simp; omega
              have HR := Lib.hid (And.intro er0 hr)
              clear er0 hr
              go_wp2_with fail
              go_roundw
              case rel => exact ⟨j + 1, _, _, _, by omega, rfl, by go_num, HRUN.out.next hlt HE.out, by rw [show evX x ⟨3, er, p, n, c⟩ = (cntX x 4 1) from by rw [show evX x ⟨3, er, p, n, c⟩ = errX (cntX x 4 1) er from rfl, show errX (cntX x 4 1) er = (cntX x 4 1) from errX_o _ er HR.out.1 HR.out.2]]; exact hI5⟩
              case measure => simp [RowKit.intOf]; omega
      · as_aux_lemma =>
          have hlook : ∀ o : Obj, (Instr.lookup 100 (.map (some M)) (.int .i64 4) false).run Tryz.prog (wk.alloc o) = .ok (.func (.func 67) #[] #[]) (wk.alloc o) := fun o => by
            have hB : (wk.alloc o).heap[M]? = some (.map ctrE.toArray 5) := (Below.heap_alloc wk o M hI.2.1.2.2.2).trans hI.2.2.2.2.2.2.2.2.1
            exact run_look 100 102 Tryz.underlying100 M _ _ _ hB 4 3 _ (by simp [ctrE, Instr.findNow, Instr.sameNow])
          have hnq : ∀ W : World, (binOp .neq 102 (.func (.func 67) #[] #[]) Value.nilFunc).run Tryz.prog W = .ok (.bool true) W := fun W => by kernel_rfl
          have heq : ∀ W : World, (binOp .eql 102 (.func (.func 67) #[] #[]) Value.nilFunc).run Tryz.prog W = .ok (.bool false) W := fun W => by kernel_rfl
          have k10 := hI.cellL.1
          have hSk : S < wk.heap.size := by omega
          have hok := hI.ok
          have hrange : World.rangeAt wk E (o + j * 18) [.int .i64 4, .int .i64 er, .string ⟨#[]⟩, .slice p n c, .int .i64 0, .int .u32 0, .int .u8 0, .int .u64 0, .int .u64 0, .int .u64 0, .int .u64 0, .int .u64 0, .int .u64 0, .int .u64 0, .int .u64 0, .int .u64 0, .int .u64 0, .complex .f64 0 0] := fun jj v hv => by
            match jj, hv with
            | 0, hv => cases hv; exact c0
            | 1, hv => cases hv; exact c1
            | 2, hv => cases hv; exact c2
            | 3, hv => cases hv; exact c3
            | 4, hv => cases hv; exact c4
            | 5, hv => cases hv; exact c5
            | 6, hv => cases hv; exact c6
            | 7, hv => cases hv; exact c7'
            | 8, hv => cases hv; exact c8'
            | 9, hv => cases hv; exact c9'
            | 10, hv => cases hv; exact c10'
            | 11, hv => cases hv; exact c11'
            | 12, hv => cases hv; exact c12'
            | 13, hv => cases hv; exact c13'
            | 14, hv => cases hv; exact c14'
            | 15, hv => cases hv; exact c15'
            | 16, hv => cases hv; exact c16'
            | 17, hv => cases hv; exact c17
          have HRG := Lib.hid hrange
          clear hrange c0 c1 c2 c3 c4 c5 c6 c7' c8' c9' c10' c11' c12' c13' c14' c15' c16' c17
          go_wp2_with (first | (refine wpList_load_mid rfl 56 (.tmp 19) rfl E (o + j * 18) rfl [.int .i64 4, .int .i64 er, .string ⟨#[]⟩, .slice p n c, .int .i64 0, .int .u32 0, .int .u8 0, .int .u64 0, .int .u64 0, .int .u64 0, .int .u64 0, .int .u64 0, .int .u64 0, .int .u64 0, .int .u64 0, .int .u64 0, .int .u64 0, .complex .f64 0 0] _ HRG.out Tryz.underlying56 rfl (by kernel_rfl) ?_) | (refine wpList_store_rowTo rfl 56 (.tmp 9) (.tmp 20) rfl rfl wk.heap.size #[.int .i64 4, .int .i64 er, .string ⟨#[]⟩, .slice p n c, .int .i64 0, .int .u32 0, .int .u8 0, .int .u64 0, .int .u64 0, .int .u64 0, .int .u64 0, .int .u64 0, .int .u64 0, .int .u64 0, .int .u64 0, .int .u64 0, .int .u64 0, .complex .f64 0 0] rfl rfl 45 #[.int .i64 0, .int .i64 0, .string ⟨#[]⟩, .slice none 0 0, .int .i64 0, .int .u32 0, .int .u8 0, .int .u64 0, .int .u64 0, .int .u64 0, .int .u64 0, .int .u64 0, .int .u64 0, .int .u64 0, .int .u64 0, .int .u64 0, .int .u64 0, .complex .f64 0 0] (heap_alloc_last wk _) (by kernel_rfl) rfl (by kernel_rfl) ?_; rw [World.setRow_alloc_new]))
          refine (Next_is a b 4 hok.2.1 hok.2.2 _).mono ?_
          rintro ee w3 ⟨rfl, hb3⟩
          have hlC : Later wk (wk.alloc (Obj.cells #[.int .i64 4, .int .i64 er, .string ⟨#[]⟩, .slice p n c, .int .i64 0, .int .u32 0, .int .u8 0, .int .u64 0, .int .u64 0, .int .u64 0, .int .u64 0, .int .u64 0, .int .u64 0, .int .u64 0, .int .u64 0, .int .u64 0, .int .u64 0, .complex .f64 0 0] 56)) := (Later.refl wk).alloc _
          have hI3 := (hI.later hlC).later hb3
          have hX3 : XI w3 S wk.heap.size ⟨4, er, p, n, c⟩ := XI.later (V := wk.alloc (Obj.cells #[.int .i64 4, .int .i64 er, .string ⟨#[]⟩, .slice p n c, .int .i64 0, .int .u32 0, .int .u8 0, .int .u64 0, .int .u64 0, .int .u64 0, .int .u64 0, .int .u64 0, .int .u64 0, .int .u64 0, .int .u64 0, .int .u64 0, .int .u64 0, .complex .f64 0 0] 56)) ⟨⟨hSk, by simp⟩, by go_cell, by go_cell, by go_cell⟩ hb3
          have q10 := hI3.cellL
          have q10c := q10.1
          have q10f := q10.2
          have hne : S ≠ wk.heap.size := by omega
          clear hlook k10 HRG hI hb3 hlC q10
          have y0 := hX3.2.1
          have y1 := hX3.2.2.1
          have y3 := hX3.2.2.2
          go_wp2_with fail
          have hI4 := hI3.load (nextR a 4) (nextI b 4) (nextR_le a 4 hok.2.1) (nextI_le b 4 hok.2.2)
          have hX4 := hX3.set 10 (.complex .f64 (nextR a 4) (nextI b 4))
          clear hI3 hX3 y0 y1 y3 q10c q10f
          generalize w3.setCell ⟨S, 10, none⟩ (.complex .f64 (nextR a 4) (nextI b 4)) = V4 at *
          refine (counter4_is S _).mono ?_
          rintro ee wq ⟨rfl, rfl⟩
          go_wp2_with fail
          refine (count_is S 5 (x 5) 1 (hI4.ok.1 5).1 (hI4.ok.1 5).2 (by omega) (by omega) _ (hI4.cellS 5 (by omega)).1 (hI4.cellS 5 (by omega)).2).mono ?_
          rintro ee wq ⟨rfl, rfl⟩
          have hI5 := hI4.count 5 (by omega) 1 (by omega)
          have hX5 := hX4.set 5 (.int .u64 (mo (x 5) 1))
          clear hI4 hX4
          generalize V4.setCell ⟨S, 5, none⟩ (.int .u64 (mo (x 5) 1)) = V5 at *
          have y0 := hX5.2.1
          have y1 := hX5.2.2.1
          have y3 := hX5.2.2.2
          by_cases er0 : er = 0
          · subst er0
            go_wp2_with fail
            refine (count_is S 7 ((cntX x 5 1) 7) 1 (hI5.ok.1 7).1 (hI5.ok.1 7).2 (by omega) (by omega) _ (hI5.cellS 7 (by omega)).1 (hI5.cellS 7 (by omega)).2).mono ?_
            rintro ee wq ⟨rfl, rfl⟩
            have hI6 := hI5.count 7 (by omega) 1 (by omega)
            have hX6 := hX5.set 7 (.int .u64 (mo ((cntX x 5 1) 7) 1))
            clear hI5 hX5 y0 y1 y3
            generalize V5.setCell ⟨S, 7, none⟩ (.int .u64 (mo ((cntX x 5 1) 7) 1)) = V6 at *
            have y0 := hX6.2.1
            have y1 := hX6.2.2.1
            have y3 := hX6.2.2.2
            go_wp2_with fail
            go_roundw
            case rel => exact ⟨j + 1, _, _, _, by omega, rfl, by go_num, HRUN.out.next hlt HE.out, by rw [show evX x ⟨4, 0, p, n, c⟩ = (cntX (cntX x 5 1) 7 1) from by rw [show evX x ⟨4, 0, p, n, c⟩ = errX (cntX x 5 1) 0 from rfl, show errX (cntX x 5 1) 0 = (cntX (cntX x 5 1) 7 1) from rfl]]; exact hI6⟩
            case measure => simp [RowKit.intOf]; omega
          · by_cases hr : er = 10 ∨ er = 11 ∨ er = 12
            · have t0 : (er == 0) = false := by simp [er0]
              clear er0 t0
              rcases hr with rfl | rfl | rfl
              · go_wp2_with fail
                refine (count_is S 8 ((cntX x 5 1) 8) 1 (hI5.ok.1 8).1 (hI5.ok.1 8).2 (by omega) (by omega) _ (hI5.cellS 8 (by omega)).1 (hI5.cellS 8 (by omega)).2).mono ?_
                rintro ee wq ⟨rfl, rfl⟩
                have hI6 := hI5.count 8 (by omega) 1 (by omega)
                have hX6 := hX5.set 8 (.int .u64 (mo ((cntX x 5 1) 8) 1))
                clear hI5 hX5 y0 y1 y3
                generalize V5.setCell ⟨S, 8, none⟩ (.int .u64 (mo ((cntX x 5 1) 8) 1)) = V6 at *
                have y0 := hX6.2.1
                have y1 := hX6.2.2.1
                have y3 := hX6.2.2.2
                go_wp2_with fail
                go_roundw
                case rel => exact ⟨j + 1, _, _, _, by omega, rfl, by go_num, HRUN.out.next hlt HE.out, by rw [show evX x ⟨4, 10, p, n, c⟩ = (cntX (cntX x 5 1) 8 1) from by rw [show evX x ⟨4, 10, p, n, c⟩ = errX (cntX x 5 1) 10 from rfl, show errX (cntX x 5 1) 10 = (cntX (cntX x 5 1) 8 1) from errX_r _ 10 (by decide)]]; exact hI6⟩
                case measure => simp [RowKit.intOf]; omega
              · go_wp2_with fail
                refine (count_is S 8 ((cntX x 5 1) 8) 1 (hI5.ok.1 8).1 (hI5.ok.1 8).2 (by omega) (by omega) _ (hI5.cellS 8 (by omega)).1 (hI5.cellS 8 (by omega)).2).mono ?_
                rintro ee wq ⟨rfl, rfl⟩
                have hI6 := hI5.count 8 (by omega) 1 (by omega)
                have hX6 := hX5.set 8 (.int .u64 (mo ((cntX x 5 1) 8) 1))
                clear hI5 hX5 y0 y1 y3
                generalize V5.setCell ⟨S, 8, none⟩ (.int .u64 (mo ((cntX x 5 1) 8) 1)) = V6 at *
                have y0 := hX6.2.1
                have y1 := hX6.2.2.1
                have y3 := hX6.2.2.2
                go_wp2_with fail
                go_roundw
                case rel => exact ⟨j + 1, _, _, _, by omega, rfl, by go_num, HRUN.out.next hlt HE.out, by rw [show evX x ⟨4, 11, p, n, c⟩ = (cntX (cntX x 5 1) 8 1) from by rw [show evX x ⟨4, 11, p, n, c⟩ = errX (cntX x 5 1) 11 from rfl, show errX (cntX x 5 1) 11 = (cntX (cntX x 5 1) 8 1) from errX_r _ 11 (by decide)]]; exact hI6⟩
                case measure => simp [RowKit.intOf]; omega
              · go_wp2_with fail
                refine (count_is S 8 ((cntX x 5 1) 8) 1 (hI5.ok.1 8).1 (hI5.ok.1 8).2 (by omega) (by omega) _ (hI5.cellS 8 (by omega)).1 (hI5.cellS 8 (by omega)).2).mono ?_
                rintro ee wq ⟨rfl, rfl⟩
                have hI6 := hI5.count 8 (by omega) 1 (by omega)
                have hX6 := hX5.set 8 (.int .u64 (mo ((cntX x 5 1) 8) 1))
                clear hI5 hX5 y0 y1 y3
                generalize V5.setCell ⟨S, 8, none⟩ (.int .u64 (mo ((cntX x 5 1) 8) 1)) = V6 at *
                have y0 := hX6.2.1
                have y1 := hX6.2.2.1
                have y3 := hX6.2.2.2
                go_wp2_with fail
                go_roundw
                case rel => exact ⟨j + 1, _, _, _, by omega, rfl, by go_num, HRUN.out.next hlt HE.out, by rw [show evX x ⟨4, 12, p, n, c⟩ = (cntX (cntX x 5 1) 8 1) from by rw [show evX x ⟨4, 12, p, n, c⟩ = errX (cntX x 5 1) 12 from rfl, show errX (cntX x 5 1) 12 = (cntX (cntX x 5 1) 8 1) from errX_r _ 12 (by decide)]]; exact hI6⟩
                case measure => simp [RowKit.intOf]; omega
            · have t0 : (er == 0) = false := by simp [er0]
              have t1 : (er == 10) = false := by simp; omega
              have t2 : (er == 11) = false := by simp; omega
              have t3 : (er == 12) = false := by simp; omega
              have HR := Lib.hid (And.intro er0 hr)
              clear er0 hr
              go_wp2_with fail
              go_roundw
              case rel => exact ⟨j + 1, _, _, _, by omega, rfl, by go_num, HRUN.out.next hlt HE.out, by rw [show evX x ⟨4, er, p, n, c⟩ = (cntX x 5 1) from by rw [show evX x ⟨4, er, p, n, c⟩ = errX (cntX x 5 1) er from rfl, show errX (cntX x 5 1) er = (cntX x 5 1) from errX_o _ er HR.out.1 HR.out.2]]; exact hI5⟩
              case measure => simp [RowKit.intOf]; omega
      · as_aux_lemma =>
          have hlook : ∀ o : Obj, (Instr.lookup 100 (.map (some M)) (.int .i64 5) false).run Tryz.prog (wk.alloc o) = .ok (.func (.func 68) #[] #[]) (wk.alloc o) := fun o => by
            have hB : (wk.alloc o).heap[M]? = some (.map ctrE.toArray 5) := (Below.heap_alloc wk o M hI.2.1.2.2.2).trans hI.2.2.2.2.2.2.2.2.1
            exact run_look 100 102 Tryz.underlying100 M _ _ _ hB 5 4 _ (by simp [ctrE, Instr.findNow, Instr.sameNow])
          have hnq : ∀ W : World, (binOp .neq 102 (.func (.func 68) #[] #[]) Value.nilFunc).run Tryz.prog W = .ok (.bool true) W := fun W => by kernel_rfl
          have heq : ∀ W : World, (binOp .eql 102 (.func (.func 68) #[] #[]) Value.nilFunc).run Tryz.prog W = .ok (.bool false) W := fun W => by kernel_rfl
          have k10 := hI.cellL.1
          have hSk : S < wk.heap.size := by omega
          have hok := hI.ok
          have hrange : World.rangeAt wk E (o + j * 18) [.int .i64 5, .int .i64 er, .string ⟨#[]⟩, .slice p n c, .int .i64 0, .int .u32 0, .int .u8 0, .int .u64 0, .int .u64 0, .int .u64 0, .int .u64 0, .int .u64 0, .int .u64 0, .int .u64 0, .int .u64 0, .int .u64 0, .int .u64 0, .complex .f64 0 0] := fun jj v hv => by
            match jj, hv with
            | 0, hv => cases hv; exact c0
            | 1, hv => cases hv; exact c1
            | 2, hv => cases hv; exact c2
            | 3, hv => cases hv; exact c3
            | 4, hv => cases hv; exact c4
            | 5, hv => cases hv; exact c5
            | 6, hv => cases hv; exact c6
            | 7, hv => cases hv; exact c7'
            | 8, hv => cases hv; exact c8'
            | 9, hv => cases hv; exact c9'
            | 10, hv => cases hv; exact c10'
            | 11, hv => cases hv; exact c11'
            | 12, hv => cases hv; exact c12'
            | 13, hv => cases hv; exact c13'
            | 14, hv => cases hv; exact c14'
            | 15, hv => cases hv; exact c15'
            | 16, hv => cases hv; exact c16'
            | 17, hv => cases hv; exact c17
          have HRG := Lib.hid hrange
          clear hrange c0 c1 c2 c3 c4 c5 c6 c7' c8' c9' c10' c11' c12' c13' c14' c15' c16' c17
          go_wp2_with (first | (refine wpList_load_mid rfl 56 (.tmp 19) rfl E (o + j * 18) rfl [.int .i64 5, .int .i64 er, .string ⟨#[]⟩, .slice p n c, .int .i64 0, .int .u32 0, .int .u8 0, .int .u64 0, .int .u64 0, .int .u64 0, .int .u64 0, .int .u64 0, .int .u64 0, .int .u64 0, .int .u64 0, .int .u64 0, .int .u64 0, .complex .f64 0 0] _ HRG.out Tryz.underlying56 rfl (by kernel_rfl) ?_) | (refine wpList_store_rowTo rfl 56 (.tmp 9) (.tmp 20) rfl rfl wk.heap.size #[.int .i64 5, .int .i64 er, .string ⟨#[]⟩, .slice p n c, .int .i64 0, .int .u32 0, .int .u8 0, .int .u64 0, .int .u64 0, .int .u64 0, .int .u64 0, .int .u64 0, .int .u64 0, .int .u64 0, .int .u64 0, .int .u64 0, .int .u64 0, .complex .f64 0 0] rfl rfl 45 #[.int .i64 0, .int .i64 0, .string ⟨#[]⟩, .slice none 0 0, .int .i64 0, .int .u32 0, .int .u8 0, .int .u64 0, .int .u64 0, .int .u64 0, .int .u64 0, .int .u64 0, .int .u64 0, .int .u64 0, .int .u64 0, .int .u64 0, .int .u64 0, .complex .f64 0 0] (heap_alloc_last wk _) (by kernel_rfl) rfl (by kernel_rfl) ?_; rw [World.setRow_alloc_new]))
          refine (Next_is a b 5 hok.2.1 hok.2.2 _).mono ?_
          rintro ee w3 ⟨rfl, hb3⟩
          have hlC : Later wk (wk.alloc (Obj.cells #[.int .i64 5, .int .i64 er, .string ⟨#[]⟩, .slice p n c, .int .i64 0, .int .u32 0, .int .u8 0, .int .u64 0, .int .u64 0, .int .u64 0, .int .u64 0, .int .u64 0, .int .u64 0, .int .u64 0, .int .u64 0, .int .u64 0, .int .u64 0, .complex .f64 0 0] 56)) := (Later.refl wk).alloc _
          have hI3 := (hI.later hlC).later hb3
          have hX3 : XI w3 S wk.heap.size ⟨5, er, p, n, c⟩ := XI.later (V := wk.alloc (Obj.cells #[.int .i64 5, .int .i64 er, .string ⟨#[]⟩, .slice p n c, .int .i64 0, .int .u32 0, .int .u8 0, .int .u64 0, .int .u64 0, .int .u64 0, .int .u64 0, .int .u64 0, .int .u64 0, .int .u64 0, .int .u64 0, .int .u64 0, .int .u64 0, .complex .f64 0 0] 56)) ⟨⟨hSk, by simp⟩, by go_cell, by go_cell, by go_cell⟩ hb3
          have q10 := hI3.cellL
          have q10c := q10.1
          have q10f := q10.2
          have hne : S ≠ wk.heap.size := by omega
          clear hlook k10 HRG hI hb3 hlC q10
          have y0 := hX3.2.1
          have y1 := hX3.2.2.1
          have y3 := hX3.2.2.2
          go_wp2_with fail
          have hI4 := hI3.load (nextR a 5) (nextI b 5) (nextR_le a 5 hok.2.1) (nextI_le b 5 hok.2.2)
          have hX4 := hX3.set 10 (.complex .f64 (nextR a 5) (nextI b 5))
          clear hI3 hX3 y0 y1 y3 q10c q10f
          generalize w3.setCell ⟨S, 10, none⟩ (.complex .f64 (nextR a 5) (nextI b 5)) = V4 at *
          refine (counter5_is S _).mono ?_
          rintro ee wq ⟨rfl, rfl⟩
          go_wp2_with fail
          refine (count_is S 6 (x 6) 1 (hI4.ok.1 6).1 (hI4.ok.1 6).2 (by omega) (by omega) _ (hI4.cellS 6 (by omega)).1 (hI4.cellS 6 (by omega)).2).mono ?_
          rintro ee wq ⟨rfl, rfl⟩
          have hI5 := hI4.count 6 (by omega) 1 (by omega)
          have hX5 := hX4.set 6 (.int .u64 (mo (x 6) 1))
          clear hI4 hX4
          generalize V4.setCell ⟨S, 6, none⟩ (.int .u64 (mo (x 6) 1)) = V5 at *
          have y0 := hX5.2.1
          have y1 := hX5.2.2.1
          have y3 := hX5.2.2.2
          by_cases er0 : er = 0
          · subst er0
            go_wp2_with fail
            refine (count_is S 7 ((cntX x 6 1) 7) 1 (hI5.ok.1 7).1 (hI5.ok.1 7).2 (by omega) (by omega) _ (hI5.cellS 7 (by omega)).1 (hI5.cellS 7 (by omega)).2).mono ?_
            rintro ee wq ⟨rfl, rfl⟩
            have hI6 := hI5.count 7 (by omega) 1 (by omega)
            have hX6 := hX5.set 7 (.int .u64 (mo ((cntX x 6 1) 7) 1))
            clear hI5 hX5 y0 y1 y3
            generalize V5.setCell ⟨S, 7, none⟩ (.int .u64 (mo ((cntX x 6 1) 7) 1)) = V6 at *
            have y0 := hX6.2.1
            have y1 := hX6.2.2.1
            have y3 := hX6.2.2.2
            go_wp2_with fail
            refine (count_is S 9 ((cntX (cntX x 6 1) 7 1) 9) (n : Int) (hI6.ok.1 9).1 (hI6.ok.1 9).2 (by omega) (by omega) _ (hI6.cellS 9 (by omega)).1 (hI6.cellS 9 (by omega)).2).mono ?_
            rintro ee wq ⟨rfl, rfl⟩
            have hI7 := hI6.count 9 (by omega) (n : Int) (by omega)
            have hX7 := hX6.set 9 (.int .u64 (mo ((cntX (cntX x 6 1) 7 1) 9) (n : Int)))
            clear hI6 hX6
            go_wp2_with fail
            go_roundw
            case rel => exact ⟨j + 1, _, _, _, by omega, rfl, by go_num, HRUN.out.next hlt HE.out, by rw [show evX x ⟨5, 0, p, n, c⟩ = cntX (cntX (cntX x 6 1) 7 1) 9 n from by rw [show evX x ⟨5, 0, p, n, c⟩ = cntX (errX (cntX x 6 1) 0) 9 n from rfl, show errX (cntX x 6 1) 0 = (cntX (cntX x 6 1) 7 1) from rfl]]; exact hI7⟩
            case measure => simp [RowKit.intOf]; omega
          · by_cases hr : er = 10 ∨ er = 11 ∨ er = 12
            · have t0 : (er == 0) = false := by simp [er0]
              clear er0 t0
              rcases hr with rfl | rfl | rfl
              · go_wp2_with fail
                refine (count_is S 8 ((cntX x 6 1) 8) 1 (hI5.ok.1 8).1 (hI5.ok.1 8).2 (by omega) (by omega) _ (hI5.cellS 8 (by omega)).1 (hI5.cellS 8 (by omega)).2).mono ?_
                rintro ee wq ⟨rfl, rfl⟩
                have hI6 := hI5.count 8 (by omega) 1 (by omega)
                have hX6 := hX5.set 8 (.int .u64 (mo ((cntX x 6 1) 8) 1))
                clear hI5 hX5 y0 y1 y3
                generalize V5.setCell ⟨S, 8, none⟩ (.int .u64 (mo ((cntX x 6 1) 8) 1)) = V6 at *
                have y0 := hX6.2.1
                have y1 := hX6.2.2.1
                have y3 := hX6.2.2.2
                go_wp2_with fail
                refine (count_is S 9 ((cntX (cntX x 6 1) 8 1) 9) (n : Int) (hI6.ok.1 9).1 (hI6.ok.1 9).2 (by omega) (by omega) _ (hI6.cellS 9 (by omega)).1 (hI6.cellS 9 (by omega)).2).mono ?_
                rintro ee wq ⟨rfl, rfl⟩
                have hI7 := hI6.count 9 (by omega) (n : Int) (by omega)
                have hX7 := hX6.set 9 (.int .u64 (mo ((cntX (cntX x 6 1) 8 1) 9) (n : Int)))
                clear hI6 hX6
                go_wp2_with fail
                go_roundw
                case rel => exact ⟨j + 1, _, _, _, by omega, rfl, by go_num, HRUN.out.next hlt HE.out, by rw [show evX x ⟨5, 10, p, n, c⟩ = cntX (cntX (cntX x 6 1) 8 1) 9 n from by rw [show evX x ⟨5, 10, p, n, c⟩ = cntX (errX (cntX x 6 1) 10) 9 n from rfl, show errX (cntX x 6 1) 10 = (cntX (cntX x 6 1) 8 1) from errX_r _ 10 (by decide)]]; exact hI7⟩
                case measure => simp [RowKit.intOf]; omega
              · go_wp2_with fail
                refine (count_is S 8 ((cntX x 6 1) 8) 1 (hI5.ok.1 8).1 (hI5.ok.1 8).2 (by omega) (by omega) _ (hI5.cellS 8 (by omega)).1 (hI5.cellS 8 (by omega)).2).mono ?_
                rintro ee wq ⟨rfl, rfl⟩
                have hI6 := hI5.count 8 (by omega) 1 (by omega)
                have hX6 := hX5.set 8 (.int .u64 (mo ((cntX x 6 1) 8) 1))
                clear hI5 hX5 y0 y1 y3
                generalize V5.setCell ⟨S, 8, none⟩ (.int .u64 (mo ((cntX x 6 1) 8) 1)) = V6 at *
                have y0 := hX6.2.1
                have y1 := hX6.2.2.1
                have y3 := hX6.2.2.2
                go_wp2_with fail
                refine (count_is S 9 ((cntX (cntX x 6 1) 8 1) 9) (n : Int) (hI6.ok.1 9).1 (hI6.ok.1 9).2 (by omega) (by omega) _ (hI6.cellS 9 (by omega)).1 (hI6.cellS 9 (by omega)).2).mono ?_
                rintro ee wq ⟨rfl, rfl⟩
                have hI7 := hI6.count 9 (by omega) (n : Int) (by omega)
                have hX7 := hX6.set 9 (.int .u64 (mo ((cntX (cntX x 6 1) 8 1) 9) (n : Int)))
                clear hI6 hX6
                go_wp2_with fail
                go_roundw
                case rel => exact ⟨j + 1, _, _, _, by omega, rfl, by go_num, HRUN.out.next hlt HE.out, by rw [show evX x ⟨5, 11, p, n, c⟩ = cntX (cntX (cntX x 6 1) 8 1) 9 n from by rw [show evX x ⟨5, 11, p, n, c⟩ = cntX (errX (cntX x 6 1) 11) 9 n from rfl, show errX (cntX x 6 1) 11 = (cntX (cntX x 6 1) 8 1) from errX_r _ 11 (by decide)]]; exact hI7⟩
                case measure => simp [RowKit.intOf]; omega
              · go_wp2_with fail
                refine (count_is S 8 ((cntX x 6 1) 8) 1 (hI5.ok.1 8).1 (hI5.ok.1 8).2 (by omega) (by omega) _ (hI5.cellS 8 (by omega)).1 (hI5.cellS 8 (by omega)).2).mono ?_
                rintro ee wq ⟨rfl, rfl⟩
                have hI6 := hI5.count 8 (by omega) 1 (by omega)
                have hX6 := hX5.set 8 (.int .u64 (mo ((cntX x 6 1) 8) 1))
                clear hI5 hX5 y0 y1 y3
                generalize V5.setCell ⟨S, 8, none⟩ (.int .u64 (mo ((cntX x 6 1) 8) 1)) = V6 at *
                have y0 := hX6.2.1
                have y1 := hX6.2.2.1
                have y3 := hX6.2.2.2
                go_wp2_with fail
                refine (count_is S 9 ((cntX (cntX x 6 1) 8 1) 9) (n : Int) (hI6.ok.1 9).1 (hI6.ok.1 9).2 (by omega) (by omega) _ (hI6.cellS 9 (by omega)).1 (hI6.cellS 9 (by omega)).2).mono ?_
                rintro ee wq ⟨rfl, rfl⟩
                have hI7 := hI6.count 9 (by omega) (n : Int) (by omega)
                have hX7 := hX6.set 9 (.int .u64 (mo ((cntX (cntX x 6 1) 8 1) 9) (n : Int)))
                clear hI6 hX6
                go_wp2_with fail
                go_roundw
                case rel => exact ⟨j + 1, _, _, _, by omega, rfl, by go_num, HRUN.out.next hlt HE.out, by rw [show evX x ⟨5, 12, p, n, c⟩ = cntX (cntX (cntX x 6 1) 8 1) 9 n from by rw [show evX x ⟨5, 12, p, n, c⟩ = cntX (errX (cntX x 6 1) 12) 9 n from rfl, show errX (cntX x 6 1) 12 = (cntX (cntX x 6 1) 8 1) from errX_r _ 12 (by decide)]]; exact hI7⟩
                case measure => simp [RowKit.intOf]; omega
            · have t0 : (er == 0) = false := by simp [er0]
              have t1 : (er == 10) = false := by simp; omega
              have t2 : (er == 11) = false := by simp; omega
              have t3 : (er == 12) = false := by simp; omega
              have HR := Lib.hid (And.intro er0 hr)
              clear er0 hr
              go_wp2_with fail
              refine (count_is S 9 ((cntX x 6 1) 9) (n : Int) (hI5.ok.1 9).1 (hI5.ok.1 9).2 (by omega) (by omega) _ (hI5.cellS 9 (by omega)).1 (hI5.cellS 9 (by omega)).2).mono ?_
              rintro ee wq ⟨rfl, rfl⟩
              have hI6 := hI5.count 9 (by omega) (n : Int) (by omega)
              have hX6 := hX5.set 9 (.int .u64 (mo ((cntX x 6 1) 9) (n : Int)))
              clear hI5 hX5
              go_wp2_with fail
              go_roundw
              case rel => exact ⟨j + 1, _, _, _, by omega, rfl, by go_num, HRUN.out.next hlt HE.out, by rw [show evX x ⟨5, er, p, n, c⟩ = cntX (cntX x 6 1) 9 n from by rw [show evX x ⟨5, er, p, n, c⟩ = cntX (errX (cntX x 6 1) er) 9 n from rfl, show errX (cntX x 6 1) er = (cntX x 6 1) from errX_o _ er HR.out.1 HR.out.2]]; exact hI6⟩
              case measure => simp [RowKit.intOf]; omega
      · as_aux_lemma =>
          have hlook : ∀ o : Obj, (Instr.lookup 100 (.map (some M)) (.int .i64 6) false).run Tryz.prog (wk.alloc o) = .ok (Value.nilFunc) (wk.alloc o) := fun o => by
            have hB : (wk.alloc o).heap[M]? = some (.map ctrE.toArray 5) := (Below.heap_alloc wk o M hI.2.1.2.2.2).trans hI.2.2.2.2.2.2.2.2.1
            exact run_miss 100 102 Tryz.underlying100 M _ _ _ hB 6 _ (by kernel_rfl) (by simp [ctrE, Instr.findNow, Instr.sameNow])
          have hnq : ∀ W : World, (binOp .neq 102 Value.nilFunc Value.nilFunc).run Tryz.prog W = .ok (.bool false) W := fun W => by kernel_rfl
          have heq : ∀ W : World, (binOp .eql 102 Value.nilFunc Value.nilFunc).run Tryz.prog W = .ok (.bool true) W := fun W => by kernel_rfl
          have k10 := hI.cellL.1
          have hSk : S < wk.heap.size := by omega
          have hok := hI.ok
          have hrange : World.rangeAt wk E (o + j * 18) [.int .i64 6, .int .i64 er, .string ⟨#[]⟩, .slice p n c, .int .i64 0, .int .u32 0, .int .u8 0, .int .u64 0, .int .u64 0, .int .u64 0, .int .u64 0, .int .u64 0, .int .u64 0, .int .u64 0, .int .u64 0, .int .u64 0, .int .u64 0, .complex .f64 0 0] := fun jj v hv => by
            match jj, hv with
            | 0, hv => cases hv; exact c0
            | 1, hv => cases hv; exact c1
            | 2, hv => cases hv; exact c2
            | 3, hv => cases hv; exact c3
            | 4, hv => cases hv; exact c4
            | 5, hv => cases hv; exact c5
            | 6, hv => cases hv; exact c6
            | 7, hv => cases hv; exact c7'
            | 8, hv => cases hv; exact c8'
            | 9, hv => cases hv; exact c9'
            | 10, hv => cases hv; exact c10'
            | 11, hv => cases hv; exact c11'
            | 12, hv => cases hv; exact c12'
            | 13, hv => cases hv; exact c13'
            | 14, hv => cases hv; exact c14'
            | 15, hv => cases hv; exact c15'
            | 16, hv => cases hv; exact c16'
            | 17, hv => cases hv; exact c17
          have HRG := Lib.hid hrange
          clear hrange c0 c1 c2 c3 c4 c5 c6 c7' c8' c9' c10' c11' c12' c13' c14' c15' c16' c17
          go_wp2_with (first | (refine wpList_load_mid rfl 56 (.tmp 19) rfl E (o + j * 18) rfl [.int .i64 6, .int .i64 er, .string ⟨#[]⟩, .slice p n c, .int .i64 0, .int .u32 0, .int .u8 0, .int .u64 0, .int .u64 0, .int .u64 0, .int .u64 0, .int .u64 0, .int .u64 0, .int .u64 0, .int .u64 0, .int .u64 0, .int .u64 0, .complex .f64 0 0] _ HRG.out Tryz.underlying56 rfl (by kernel_rfl) ?_) | (refine wpList_store_rowTo rfl 56 (.tmp 9) (.tmp 20) rfl rfl wk.heap.size #[.int .i64 6, .int .i64 er, .string ⟨#[]⟩, .slice p n c, .int .i64 0, .int .u32 0, .int .u8 0, .int .u64 0, .int .u64 0, .int .u64 0, .int .u64 0, .int .u64 0, .int .u64 0, .int .u64 0, .int .u64 0, .int .u64 0, .int .u64 0, .complex .f64 0 0] rfl rfl 45 #[.int .i64 0, .int .i64 0, .string ⟨#[]⟩, .slice none 0 0, .int .i64 0, .int .u32 0, .int .u8 0, .int .u64 0, .int .u64 0, .int .u64 0, .int .u64 0, .int .u64 0, .int .u64 0, .int .u64 0, .int .u64 0, .int .u64 0, .int .u64 0, .complex .f64 0 0] (heap_alloc_last wk _) (by kernel_rfl) rfl (by kernel_rfl) ?_; rw [World.setRow_alloc_new]))
          refine (Next_is a b 6 hok.2.1 hok.2.2 _).mono ?_
          rintro ee w3 ⟨rfl, hb3⟩
          have hlC : Later wk (wk.alloc (Obj.cells #[.int .i64 6, .int .i64 er, .string ⟨#[]⟩, .slice p n c, .int .i64 0, .int .u32 0, .int .u8 0, .int .u64 0, .int .u64 0, .int .u64 0, .int .u64 0, .int .u64 0, .int .u64 0, .int .u64 0, .int .u64 0, .int .u64 0, .int .u64 0, .complex .f64 0 0] 56)) := (Later.refl wk).alloc _
          have hI3 := (hI.later hlC).later hb3
          have hX3 : XI w3 S wk.heap.size ⟨6, er, p, n, c⟩ := XI.later (V := wk.alloc (Obj.cells #[.int .i64 6, .int .i64 er, .string ⟨#[]⟩, .slice p n c, .int .i64 0, .int .u32 0, .int .u8 0, .int .u64 0, .int .u64 0, .int .u64 0, .int .u64 0, .int .u64 0, .int .u64 0, .int .u64 0, .int .u64 0, .int .u64 0, .int .u64 0, .complex .f64 0 0] 56)) ⟨⟨hSk, by simp⟩, by go_cell, by go_cell, by go_cell⟩ hb3
          have q10 := hI3.cellL
          have q10c := q10.1
          have q10f := q10.2
          have hne : S ≠ wk.heap.size := by omega
          clear hlook k10 HRG hI hb3 hlC q10
          have y0 := hX3.2.1
          have y1 := hX3.2.2.1
          have y3 := hX3.2.2.2
          go_wp2_with fail
          have hI4 := hI3.load (nextR a 6) (nextI b 6) (nextR_le a 6 hok.2.1) (nextI_le b 6 hok.2.2)
          have hX4 := hX3.set 10 (.complex .f64 (nextR a 6) (nextI b 6))
          clear hI3 hX3 y0 y1 y3 q10c q10f
          go_roundw
          case rel => exact ⟨j + 1, _, _, _, by omega, rfl, by go_num, HRUN.out.next hlt HE.out, by rw [show evX x ⟨6, er, p, n, c⟩ = x from rfl]; exact hI4⟩
          case measure => simp [RowKit.intOf]; omega
    · obtain rfl : j = l.length := by omega
      have hrun := HRUN.out
      have et : l.take l.length = l := List.take_of_length_le (Nat.le_refl _)
      rw [et] at hrun
      clear et
      obtain ⟨h1, ⟨h2, h3, h4, h5⟩, hs, k10, hf, hr, r10, hg, hm, hx, hxa, hxb⟩ := hI
      have HRL := Lib.hid hrun
      have hRl : w.heap.size ≤ R := by omega
      have k0 := hs 0 (by omega)
      have r0 := hr 0 (by omega)
      have k1 := hs 1 (by omega)
      have r1 := hr 1 (by omega)
      have k2 := hs 2 (by omega)
      have r2 := hr 2 (by omega)
      have k3 := hs 3 (by omega)
      have r3 := hr 3 (by omega)
      have k4 := hs 4 (by omega)
      have r4 := hr 4 (by omega)
      have k5 := hs 5 (by omega)
      have r5 := hr 5 (by omega)
      have k6 := hs 6 (by omega)
      have r6 := hr 6 (by omega)
      have k7 := hs 7 (by omega)
      have r7 := hr 7 (by omega)
      have k8 := hs 8 (by omega)
      have r8 := hr 8 (by omega)
      have k9 := hs 9 (by omega)
      have r9 := hr 9 (by omega)
      have g0 := hg 0 (by omega)
      have g1 := hg 1 (by omega)
      have g2 := hg 2 (by omega)
      have g3 := hg 3 (by omega)
      have g4 := hg 4 (by omega)
      have g5 := hg 5 (by omega)
      have g6 := hg 6 (by omega)
      have g7 := hg 7 (by omega)
      have g8 := hg 8 (by omega)
      have g9 := hg 9 (by omega)
      have g10 := hg 10 (by omega)
      clear hs hr hg hf hm hrun HRUN hx
      go_wp2_with fail
      have hrow := setRow_cell wk R (rowV x a b) 11 (fun j hj => by
        have : j = 0 ∨ j = 1 ∨ j = 2 ∨ j = 3 ∨ j = 4 ∨ j = 5 ∨ j = 6 ∨ j = 7 ∨ j = 8 ∨ j = 9 ∨ j = 10 := by omega
        rcases this with rfl | rfl | rfl | rfl | rfl | rfl | rfl | rfl | rfl | rfl | rfl
        · exact ⟨_, r0⟩
        · exact ⟨_, r1⟩
        · exact ⟨_, r2⟩
        · exact ⟨_, r3⟩
        · exact ⟨_, r4⟩
        · exact ⟨_, r5⟩
        · exact ⟨_, r6⟩
        · exact ⟨_, r7⟩
        · exact ⟨_, r8⟩
        · exact ⟨_, r9⟩
        · exact ⟨_, r10⟩) 11 (Nat.le_refl _)
      have hlU := setRow_later h1 R hRl (rowV x a b) 11
      have eU : (((((((((((wk.setCell ⟨R, 0, none⟩ (.int .u64 (x 0))).setCell ⟨R, 1, none⟩ (.int .u64 (x 1))).setCell ⟨R, 2, none⟩ (.int .u64 (x 2))).setCell ⟨R, 3, none⟩ (.int .u64 (x 3))).setCell ⟨R, 4, none⟩ (.int .u64 (x 4))).setCell ⟨R, 5, none⟩ (.int .u64 (x 5))).setCell ⟨R, 6, none⟩ (.int .u64 (x 6))).setCell ⟨R, 7, none⟩ (.int .u64 (x 7))).setCell ⟨R, 8, none⟩ (.int .u64 (x 8))).setCell ⟨R, 9, none⟩ (.int .u64 (x 9))).setCell ⟨R, 10, none⟩ (.complex .f64 a b)) = setRow wk R (rowV x a b) 11 := rfl
      rw [eU]
      clear eU k0 r0 g0 k1 r1 g1 k2 r2 g2 k3 r3 g3 k4 r4 g4 k5 r5 g5 k6 r6 g6 k7 r7 g7 k8 r8 g8 k9 r9 g9 k10 r10 g10
      generalize setRow wk R (rowV x a b) 11 = U at *
      have u0 : U.cell? ⟨R, 0, none⟩ = some (.int .u64 (x 0)) := (hrow 0).1 (by omega)
      have u1 : U.cell? ⟨R, 1, none⟩ = some (.int .u64 (x 1)) := (hrow 1).1 (by omega)
      have u2 : U.cell? ⟨R, 2, none⟩ = some (.int .u64 (x 2)) := (hrow 2).1 (by omega)
      have u3 : U.cell? ⟨R, 3, none⟩ = some (.int .u64 (x 3)) := (hrow 3).1 (by omega)
      have u4 : U.cell? ⟨R, 4, none⟩ = some (.int .u64 (x 4)) := (hrow 4).1 (by omega)
      have u5 : U.cell? ⟨R, 5, none⟩ = some (.int .u64 (x 5)) := (hrow 5).1 (by omega)
      have u6 : U.cell? ⟨R, 6, none⟩ = some (.int .u64 (x 6)) := (hrow 6).1 (by omega)
      have u7 : U.cell? ⟨R, 7, none⟩ = some (.int .u64 (x 7)) := (hrow 7).1 (by omega)
      have u8 : U.cell? ⟨R, 8, none⟩ = some (.int .u64 (x 8)) := (hrow 8).1 (by omega)
      have u9 : U.cell? ⟨R, 9, none⟩ = some (.int .u64 (x 9)) := (hrow 9).1 (by omega)
      have u10 : U.cell? ⟨R, 10, none⟩ = some (.complex .f64 a b) := (hrow 10).1 (by omega)
      clear hrow
      refine bodyPost_ret (v := .tuple #[statV x a b, .bool true]) (by simp [results, Tryz.results17, go_sem, statV, u0, u1, u2, u3, u4, u5, u6, u7, u8, u9, u10]) rfl ⟨by rw [HRL.out.1, HRL.out.2.1, HRL.out.2.2], hlU⟩
