/-
  The law's Made: the events of codes. Conditions: the codes' cells read as said.
-/
import Derived.Test.YthohoendjipleaaGreatDoorV
import Derived.BigRegion
import Derived.Deep.RegionHeld3
import Derived.Deep.CutRange
import Derived.IntWalk
import Derived.Laws.AppendOwn
import Derived.Laws.MakeOwn
import Derived.OwnWalk
namespace Go.Proofs.YthohoendjipleaaGreatDoor
open Go.RowKit Go.Sort
set_option linter.unusedSimpArgs false

/-- the errors that a code names -/
def errs : List Int := [0, 0, 5, 10, 11, 12, 13, 2]
theorem errs_cell (w : World) (i : Nat) (h : i < 8) : (w.alloc (Obj.cells #[.int .i64 0, .int .i64 0, .int .i64 5, .int .i64 10, .int .i64 11, .int .i64 12, .int .i64 13, .int .i64 2] 31)).cell? ⟨w.heap.size, i, none⟩ = some (.int .i64 (errs.getD i 0)) := by
  rw [World.cell?_alloc_new]
  have hh : i = 0 ∨ i = 1 ∨ i = 2 ∨ i = 3 ∨ i = 4 ∨ i = 5 ∨ i = 6 ∨ i = 7 := by omega
  rcases hh with rfl | rfl | rfl | rfl | rfl | rfl | rfl | rfl <;> rfl
theorem errs_in (i : Nat) : errs.getD i 0 = 0 ∨ errs.getD i 0 = 5 ∨ errs.getD i 0 = 10 ∨ errs.getD i 0 = 11 ∨ errs.getD i 0 = 12 ∨ errs.getD i 0 = 13 ∨ errs.getD i 0 = 2 := by
  by_cases h : i < 8
  · have hh : i = 0 ∨ i = 1 ∨ i = 2 ∨ i = 3 ∨ i = 4 ∨ i = 5 ∨ i = 6 ∨ i = 7 := by omega
    rcases hh with rfl | rfl | rfl | rfl | rfl | rfl | rfl | rfl <;> simp [errs]
  · rw [List.getD_eq_getElem?_getD, List.getElem?_eq_none (by simp [errs]; omega)]
    simp
/-- what a code makes: deed, error, the pairs' number -/
def codeD (c : Nat × Nat) : Int := 1 + ((c.1 % 6 : Nat) : Int)
def codeE (c : Nat × Nat) : Int := errs.getD (c.2 % 8) 0
def codeN (c : Nat × Nat) : Nat := if codeD c = 5 ∧ codeE c = 0 then c.2 / 16 else 0
/-- a slice of codes -/
def Codes (w : World) (v : Value) (l : List (Nat × Nat)) : Prop :=
  (v = .slice none 0 0 ∧ l = []) ∨ (∃ a cap, v = .slice (some a) 0 cap ∧ l = []) ∨ ∃ b o cap, v = .slice (some ⟨b, o, none⟩) l.length cap ∧ b < w.heap.size ∧ l.length ≤ cap ∧ l.length ≤ 9223372036854775807 ∧
    ∀ i, i < l.length → (l.getD i (0, 0)).1 < 256 ∧ (l.getD i (0, 0)).2 < 256 ∧ w.cell? ⟨b, o + i * 2, none⟩ = some (.int .u8 ((l.getD i (0, 0)).1 : Nat)) ∧ w.cell? ⟨b, o + i * 2 + 1, none⟩ = some (.int .u8 ((l.getD i (0, 0)).2 : Nat))
theorem Codes.later {w w' : World} {v : Value} {l : List (Nat × Nat)} (h : Codes w v l) (hl : Later w w') : Codes w' v l := by
  rcases h with h | h | ⟨b, o, cap, h1, h2, h3, h4, h5⟩
  · exact .inl h
  · exact .inr (.inl h)
  · exact .inr (.inr ⟨b, o, cap, h1, Nat.lt_of_lt_of_le h2 hl.size, h3, h4, fun i hi => ⟨(h5 i hi).1, (h5 i hi).2.1, cell_at hl (h5 i hi).2.2.1 h2, cell_at hl (h5 i hi).2.2.2 h2⟩⟩)
/-- an event's cells -/
def evC (e : Ev) : List Value := [.int .i64 e.d, .int .i64 e.er, .string ⟨#[]⟩, .slice e.p e.n e.c, .int .i64 0, .int .u32 0, .int .u8 0, .int .u64 0, .int .u64 0, .int .u64 0, .int .u64 0, .int .u64 0, .int .u64 0, .int .u64 0, .int .u64 0, .int .u64 0, .int .u64 0, .complex .f64 0 0]
def evsC (L : List Ev) : List Value := L.flatMap evC
/-- the events of codes -/
def Makes (l : List (Nat × Nat)) (L : List Ev) : Prop := L.length ≤ l.length ∧ ∀ i e, L[i]? = some e → e.d = codeD (l.getD i (0, 0)) ∧ e.er = codeE (l.getD i (0, 0)) ∧ e.n = codeN (l.getD i (0, 0))
def MI (w wr : World) (l : List (Nat × Nat)) (k : Nat) (v : Value) (L : List Ev) : Prop :=
  L.length = k ∧ Makes l L ∧ wr.ownsRow w.heap.size 56 18 v k (evsC L) ∧ Later w wr

theorem addr_add (b j : Nat) : (⟨b, 0, none⟩ : Addr).add j = ⟨b, j, none⟩ := by
  unfold Addr.add; split <;> simp_all
theorem rangeAt_block {w : World} {X : Nat} {cs : List Value} {t : TypeId} (h : w.heap[X]? = some (.cells cs.toArray t (0, 0))) : w.rangeAt X 0 cs := fun j v hv => by
  show w.cell? ⟨X, 0 + j, none⟩ = some v
  simp [World.cell?, h, hv]
theorem ownsRow_later {w w' : World} {base n : Nat} {e : TypeId} {size : Nat} {v : Value} {xs : List Value} (h : w.ownsRow base e size v n xs) (hl : Later w w') : w'.ownsRow base e size v n xs :=
  h.kept (row := none) ⟨hl.os, hl.tape, hl.output, hl.size, fun k hk _ => hl.block k hk⟩ (by cases v.ownBlock <;> simp)
theorem Makes.snoc {l : List (Nat × Nat)} {L : List Ev} {e : Ev} (h : Makes l L) (hk : L.length < l.length) (he : e.d = codeD (l.getD L.length (0, 0)) ∧ e.er = codeE (l.getD L.length (0, 0)) ∧ e.n = codeN (l.getD L.length (0, 0))) : Makes l (L ++ [e]) := by
  refine ⟨by simp; omega, fun i e' h' => ?_⟩
  by_cases hi : i < L.length
  · rw [List.getElem?_append_left hi] at h'
    exact h.2 i e' h'
  · rw [List.getElem?_append_right (by omega)] at h'
    by_cases h0 : i - L.length = 0
    · rw [h0] at h'
      obtain rfl : e = e' := by simpa using h'
      obtain rfl : i = L.length := by omega
      exact he
    · rw [List.getElem?_eq_none (by simp; omega)] at h'
      cases h'
theorem evC_length (e : Ev) : (evC e).length = 18 := rfl
theorem MI.next {w wr V w1 : World} {l : List (Nat × Nat)} {k : Nat} {v v' : Value} {L : List Ev} {e : Ev} (h : MI w wr l k v L) (hk : k < l.length)
    (he : e.d = codeD (l.getD k (0, 0)) ∧ e.er = codeE (l.getD k (0, 0)) ∧ e.n = codeN (l.getD k (0, 0))) (hl : Later wr V) (hown : w1.ownsRow w.heap.size 56 18 v' (k + 1) (evsC L ++ evC e)) (hg : V.grownBy w1 v.ownBlock) : MI w w1 l (k + 1) v' (L ++ [e]) := by
  obtain ⟨h1, h2, h3, h4⟩ := h
  subst h1
  refine ⟨by simp, h2.snoc hk he, ?_, ?_⟩
  · have : evsC (L ++ [e]) = evsC L ++ evC e := by simp [evsC, List.flatMap_append]
    rw [this]; exact hown
  · have hlv := h4.trans hl
    exact Below.grown hlv hg hlv.size (fun j hj => (h3.lt j hj).1)
theorem info153 : (Tryz.prog.info? 205).map (fun i => (i.zero, i.size, i.bytes)) = some (some (.agg #[.string ⟨#[]⟩, .string ⟨#[]⟩]), 2, 32) := by kernel_rfl
theorem info45 : (Tryz.prog.info? 56).map (fun i => (i.zero, i.size, i.bytes)) = some (some (.agg #[.int .i64 0, .int .i64 0, .string ⟨#[]⟩, .slice none 0 0, .int .i64 0, .int .u32 0, .int .u8 0, .int .u64 0, .int .u64 0, .int .u64 0, .int .u64 0, .int .u64 0, .int .u64 0, .int .u64 0, .int .u64 0, .int .u64 0, .int .u64 0, .complex .f64 0 0]), 18, 168) := by kernel_rfl
theorem heapA (V : World) (A B : Obj) : ((V.alloc A).alloc B).drew.heap[V.heap.size + 1]? = some B := by
  have := (MapKept.heap_alloc (V.alloc A) B).1
  rwa [show (V.alloc A).heap.size = V.heap.size + 1 by simp] at this
theorem heapB (V : World) (A B : Obj) : ((V.alloc A).alloc B).drew.heap[V.heap.size]? = some A :=
  (Below.heap_alloc (V.alloc A) B V.heap.size (by simp)).trans (MapKept.heap_alloc V A).1
end Go.Proofs.YthohoendjipleaaGreatDoor
