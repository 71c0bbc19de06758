/-
  For the law StatOrder: rows of Stats, the ranking as a function, what was seen; slices of slices of deeds.
-/
import Derived.Test.YthohoendjipleaaDoorCn
namespace Go.Proofs.YthohoendjipleaaDoor
open Go.RowKit Go.Sort Go.Lib
set_option linter.unusedSimpArgs false
set_option linter.unusedVariables false

/-- the cells of a Stat without counts -/
def stC (a b : Nat) : List Value := [.int .u64 0, .int .u64 0, .int .u64 0, .int .u64 0, .int .u64 0, .int .u64 0, .int .u64 0, .int .u64 0, .int .u64 0, .int .u64 0, .complex .f64 a b]
def stsC (A B : Nat → Nat) (n : Nat) : List Value := (List.range n).flatMap (fun i => stC (A i) (B i))
theorem stsC_next (A B : Nat → Nat) (n : Nat) : stsC A B n ++ stC (A n) (B n) = stsC A B (n + 1) := by simp [stsC, List.range_succ]
theorem stsC_len (A B : Nat → Nat) : ∀ n, (stsC A B n).length = n * 11
  | 0 => rfl
  | n + 1 => by
    rw [← stsC_next, List.length_append, stsC_len A B n]
    show n * 11 + 11 = (n + 1) * 11
    omega
theorem stsC_get (A B : Nat → Nat) : ∀ n i j, i < n → j < 11 → (stsC A B n)[i * 11 + j]? = (stC (A i) (B i))[j]?
  | 0, i, j, h, _ => by omega
  | n + 1, i, j, h, hj => by
    rw [← stsC_next]
    by_cases hi : i < n
    · rw [List.getElem?_append_left (by rw [stsC_len]; omega)]
      exact stsC_get A B n i j hi hj
    · obtain rfl : i = n := by omega
      rw [List.getElem?_append_right (by rw [stsC_len]; omega), stsC_len, show i * 11 + j - i * 11 = j by omega]
theorem stC_one (a b : Nat) : ∀ u ∈ stC a b, u.oneCell' = true := fun u hu => by
  revert u; simp [stC, Value.oneCell']
theorem stsC_one (A B : Nat → Nat) (n : Nat) : ∀ u ∈ stsC A B n, u.oneCell' = true := fun u hu => by
  obtain ⟨i, _, hi⟩ := List.mem_flatMap.1 hu
  exact stC_one _ _ u hi
/-- a row of Stats read off memory of one's own -/
theorem own_cells {w : World} {base n : Nat} {v : Value} {xs : List Value} (h : w.ownsRow base 29 11 v n xs) (hn : n ≠ 0) : ∃ G cap, v = .slice (some ⟨G, 0, none⟩) n cap ∧ base ≤ G ∧ G < w.heap.size ∧ n ≤ cap ∧ ∀ j u, xs[j]? = some u → w.cell? ⟨G, j, none⟩ = some u := by
  have h' := h
  rcases h.2 with ⟨_, h0⟩ | ⟨g, cap, cur, rfl, hb, hg, h1, _⟩
  · exact absurd h0 hn
  · exact ⟨g, cap, rfl, hb, (h'.lt g rfl).2, h1, fun j u hu => by have := h'.cells rfl j u hu; rwa [addr_add] at this⟩
theorem sts_of {w : World} {G n : Nat} {A B : Nat → Nat} {r : List Value} (hG : G < w.heap.size) (h : ∀ j u, (stsC A B n ++ r)[j]? = some u → w.cell? ⟨G, j, none⟩ = some u) : Sts w G n A B := by
  have hg : ∀ i j u, i < n → j < 11 → (stC (A i) (B i))[j]? = some u → w.cell? ⟨G, i * 11 + j, none⟩ = some u := fun i j u hi hj hu => by
    apply h
    rw [List.getElem?_append_left (by rw [stsC_len]; omega), stsC_get A B n i j hi hj, hu]
  refine ⟨hG, fun i hi => ⟨fun j hj => hg i j _ hi (by omega) ?_, hg i 10 _ hi (by omega) rfl⟩⟩
  have : j = 0 ∨ j = 1 ∨ j = 2 ∨ j = 3 ∨ j = 4 ∨ j = 5 ∨ j = 6 ∨ j = 7 ∨ j = 8 ∨ j = 9 := by omega
  rcases this with rfl | rfl | rfl | rfl | rfl | rfl | rfl | rfl | rfl | rfl <;> rfl
theorem bad_of {w : World} {G n a b : Nat} {A B : Nat → Nat} (h : ∀ j u, (stsC A B n ++ stC a b)[j]? = some u → w.cell? ⟨G, j, none⟩ = some u) :
    (∀ j, j < 10 → w.cell? ⟨G, n * 11 + j, none⟩ = some (.int .u64 0)) ∧ w.cell? ⟨G, n * 11 + 10, none⟩ = some (.complex .f64 a b) := by
  have hg : ∀ j u, (stC a b)[j]? = some u → w.cell? ⟨G, n * 11 + j, none⟩ = some u := fun j u hu => by
    apply h
    rw [List.getElem?_append_right (by rw [stsC_len]; omega), stsC_len, show n * 11 + j - n * 11 = j by omega, hu]
  refine ⟨fun j hj => hg j _ ?_, hg 10 _ rfl⟩
  have : j = 0 ∨ j = 1 ∨ j = 2 ∨ j = 3 ∨ j = 4 ∨ j = 5 ∨ j = 6 ∨ j = 7 ∨ j = 8 ∨ j = 9 := by omega
  rcases this with rfl | rfl | rfl | rfl | rfl | rfl | rfl | rfl | rfl | rfl <;> rfl

/-- the ranking, as a function; the law of it -/
def rkF (m : Nat) (A B : Nat → Nat) (k : Nat) : Nat := ((rkO (m := m) (ltR A B))[k]!).val
theorem rkF_law (m n : Nat) (hmn : m + 1 = n) (A B : Nat → Nat) :
    (∀ k, rkF m A B k < n) ∧ (∀ p q, p < n → q < n → rkF m A B p = rkF m A B q → p = q) ∧
      ∀ k, k + 1 < n → lessL (A (rkF m A B k)) (B (rkF m A B k)) (A (rkF m A B (k + 1))) (B (rkF m A B (k + 1))) = false ∧
        (lessL (A (rkF m A B (k + 1))) (B (rkF m A B (k + 1))) (A (rkF m A B k)) (B (rkF m A B k)) = true ∨ rkF m A B k ≤ rkF m A B (k + 1)) := by
  obtain ⟨h1, h2, h3⟩ := rk_law (ltR (m := m) A B) (ltR_swo A B)
  refine ⟨fun k => by rw [← hmn]; exact Fin.isLt _, fun p q hp hq he => h2 p q (by omega) (by omega) (Fin.ext he), fun k hk => ?_⟩
  exact h3 k (by omega)
/-- what the first k of the ranking are -/
def seenB (o : Nat → Nat) (k p : Nat) : Bool := (List.range k).any (fun q => o q == p)
theorem seenB_next (o : Nat → Nat) (k p : Nat) : seenB o (k + 1) p = (seenB o k p || o k == p) := by simp [seenB, List.range_succ]
theorem seenB_new (o : Nat → Nat) (n k : Nat) (hk : k < n) (hi : ∀ p q, p < n → q < n → o p = o q → p = q) : seenB o k (o k) = false := by
  unfold seenB
  rw [List.any_eq_false]
  intro q hq
  have := List.mem_range.1 hq
  simp only [beq_iff_eq]
  exact fun e => by have := hi q k (by omega) hk e; omega
/-- the list of what was seen, in a block -/
def SeenI (w0 w : World) (Sn n : Nat) (o : Nat → Nat) (k : Nat) : Prop :=
  Later w0 w ∧ w0.heap.size ≤ Sn ∧ ∀ p, p < n → w.cell? ⟨Sn, p, none⟩ = some (.bool (seenB o k p)) ∧ w.frozen? ⟨Sn, p, none⟩ = false
theorem SeenI.next {w0 w : World} {Sn n : Nat} {o : Nat → Nat} {k : Nat} (h : SeenI w0 w Sn n o k) (hk : o k < n) : SeenI w0 (w.setCell ⟨Sn, o k, none⟩ (.bool true)) Sn n o (k + 1) := by
  refine ⟨h.1.setCell _ _ h.2.1, h.2.1, fun p hp => ⟨?_, by simpa using (h.2.2 p hp).2⟩⟩
  rw [seenB_next]
  by_cases e : p = o k
  · subst e
    rw [World.cell?_setCell_same _ _ _ (h.2.2 _ hk).1]
    simp
  · rw [set_off _ _ _ _ _ e, (h.2.2 p hp).1]
    have : (o k == p) = false := by simp; exact fun h => e h.symm
    rw [this, Bool.or_false]
theorem SeenI.later {w0 w w' : World} {Sn n : Nat} {o : Nat → Nat} {k : Nat} (h : SeenI w0 w Sn n o k) (hl : Later w w') (hS : Sn < w.heap.size) : SeenI w0 w' Sn n o k :=
  ⟨h.1.trans hl, h.2.1, fun p hp => ⟨cell_at hl (h.2.2 p hp).1 hS, frz_at hl (h.2.2 p hp).2 hS⟩⟩
theorem info4 : (Tryd.prog.info? 4).map (fun i => (i.zero, i.size, i.bytes)) = some (some (.bool false), 1, 1) := by kernel_rfl
theorem make_seen (n : Nat) (hn : n ≤ 20) (o : Nat → Nat) : ∃ M, (∀ U : World, (Instr.makeSlice 62 (.int .i64 (n : Int)) (.int .i64 (n : Int))).run Tryd.prog U = .ok (.slice (some ⟨U.heap.size, 0, none⟩) n n) (U.alloc (.cells M 4))) ∧ ∀ U : World, SeenI U (U.alloc (.cells M 4)) U.heap.size n o 0 := by
  obtain ⟨i0, hi0, hiz, his, hib⟩ := info_parts info4
  refine ⟨madeCells (Value.bool false).cells (n * 1), fun U => ?_, fun U => ⟨(Later.refl U).alloc _, Nat.le_refl _, fun p hp => ⟨?_, ?_⟩⟩⟩
  · have h := run_make (P := Tryd.prog) U 62 4 i0 (Value.bool false) Tryd.underlying62 hi0 hiz .i64 .i64 (n : Int) (n : Int) (by omega) (by omega) (by rw [hib]; omega) (by omega)
    rw [his, Int.toNat_natCast] at h
    exact h
  · rw [World.cell?_alloc_new]
    simp [madeCells, hp, Value.cells, seenB, Nat.mod_one]
  · have := heap_alloc_last U (.cells (madeCells (Value.bool false).cells (n * 1)) 4)
    generalize U.alloc (.cells (madeCells (Value.bool false).cells (n * 1)) 4) = V at *
    simp [World.frozen?, this]
/-- a slice of slices of deeds -/
def DD (w : World) (v : Value) (ls : List (List Int)) : Prop :=
  (v = .slice none 0 0 ∧ ls = []) ∨ (∃ a cap, v = .slice (some a) 0 cap ∧ ls = []) ∨ ∃ b o cap, v = .slice (some ⟨b, o, none⟩) ls.length cap ∧ b < w.heap.size ∧ ls.length ≤ cap ∧ ls.length ≤ 9223372036854775807 ∧
    ∀ i, i < ls.length → ∃ vi, w.cell? ⟨b, o + i, none⟩ = some vi ∧ Deeds w vi (ls.getD i [])
end Go.Proofs.YthohoendjipleaaDoor
