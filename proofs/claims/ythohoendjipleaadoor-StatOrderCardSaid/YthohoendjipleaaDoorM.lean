/-
  The law's Made: the events of codes. Conditions: the codes' cells read as said.
-/
import Derived.Test.YthohoendjipleaaDoorV
import Derived.BigRegion
import Derived.Deep.RegionHeld3
import Derived.Deep.CutRange
import Derived.IntWalk
import Derived.Laws.AppendOwn
import Derived.Laws.MakeOwn
import Derived.OwnWalk
namespace Go.Proofs.YthohoendjipleaaDoor
open Go.RowKit Go.Sort
set_option linter.unusedSimpArgs false

/-- the errors that a code names -/
def errs : List Int := [0, 0, 5, 10, 11, 12, 13, 2]
theorem errs_cell (w : World) (i : Nat) (h : i < 8) : (w.alloc (Obj.cells #[.int .i64 0, .int .i64 0, .int .i64 5, .int .i64 10, .int .i64 11, .int .i64 12, .int .i64 13, .int .i64 2] 37)).cell? ⟨w.heap.size, i, none⟩ = some (.int .i64 (errs.getD i 0)) := by
  rw [World.cell?_alloc_new]
  have hh : i = 0 ∨ i = 1 ∨ i = 2 ∨ i = 3 ∨ i = 4 ∨ i = 5 ∨ i = 6 ∨ i = 7 := by omega
  rcases hh with rfl | rfl | rfl | rfl | rfl | rfl | rfl | rfl <;> rfl
theorem errs_in (i : Nat) : errs.getD i 0 = 0 ∨ errs.getD i 0 = 5 ∨ errs.getD i 0 = 10 ∨ errs.getD i 0 = 11 ∨ errs.getD i 0 = 12 ∨ errs.getD i 0 = 13 ∨ errs.getD i 0 = 2 := by
  by_cases h : i < 8
  · have hh : i = 0 ∨ i = 1 ∨ i = 2 ∨ i = 3 ∨ i = 4 ∨ i = 5 ∨ i = 6 ∨ i = 7 := by omega
    rcases hh with rfl | rfl | rfl | rfl | rfl | rfl | rfl | rfl <;> simp [errs]
  · rw [List.getD_eq_getElem?_getD, List.getElem?_eq_none (by simp [errs]; omega)]
    simp
/-- what a code makes: deed, error, the pairs' number -/
def codeD (c : Nat × Nat) : Int := 1 + ((c.1 % 6 : Nat) : Int)
def codeE (c : Nat × Nat) : Int := errs.getD (c.2 % 8) 0
def codeN (c : Nat × Nat) : Nat := if codeD c = 5 ∧ codeE c = 0 then c.2 / 16 else 0
/-- a slice of codes -/
def Codes (w : World) (v : Value) (l : List (Nat × Nat)) : Prop :=
  (v = .slice none 0 0 ∧ l = []) ∨ (∃ a cap, v = .slice (some a) 0 cap ∧ l = []) ∨ ∃ b o cap, v = .slice (some ⟨b, o, none⟩) l.length cap ∧ b < w.heap.size ∧ l.length ≤ cap ∧ l.length ≤ 9223372036854775807 ∧
    ∀ i, i < l.length → (l.getD i (0, 0)).1 < 256 ∧ (l.getD i (0, 0)).2 < 256 ∧ w.cell? ⟨b, o + i * 2, none⟩ = some (.int .u8 ((l.getD i (0, 0)).1 : Nat)) ∧ w.cell? ⟨b, o + i * 2 + 1, none⟩ = some (.int .u8 ((l.getD i (0, 0)).2 : Nat))
theorem Codes.later {w w' : World} {v : Value} {l : List (Nat × Nat)} (h : Codes w v l) (hl : Later w w') : Codes w' v l := by
  rcases h with h | h | ⟨b, o, cap, h1, h2, h3, h4, h5⟩
  · exact .inl h
  · exact .inr (.inl h)
  · exact .inr (.inr ⟨b, o, cap, h1, Nat.lt_of_lt_of_le h2 hl.size, h3, h4, fun i hi => ⟨(h5 i hi).1, (h5 i hi).2.1, cell_at hl (h5 i hi).2.2.1 h2, cell_at hl (h5 i hi).2.2.2 h2⟩⟩)
/-- an event's cells -/
def evC (e : Ev) : List Value := [.int .i64 e.d, .int .i64 e.er, .string ⟨#[]⟩, .slice e.p e.n e.c, .int .i64 0, .int .u32 0, .int .u8 0, .int .u64 0, .int .u64 0, .int .u64 0, .int .u64 0, .int .u64 0, .int .u64 0, .int .u64 0, .int .u64 0, .int .u64 0, .int .u64 0, .complex .f64 0 0]
def evsC (L : List Ev) : List Value := L.flatMap evC
/-- the events of codes -/
def Makes (l : List (Nat × Nat)) (L : List Ev) : Prop := L.length ≤ l.length ∧ ∀ i e, L[i]? = some e → e.d = codeD (l.getD i (0, 0)) ∧ e.er = codeE (l.getD i (0, 0)) ∧ e.n = codeN (l.getD i (0, 0))
def MI (w wr : World) (l : List (Nat × Nat)) (k : Nat) (v : Value) (L : List Ev) : Prop :=
  L.length = k ∧ Makes l L ∧ wr.ownsRow w.heap.size 45 18 v k (evsC L) ∧ Later w wr

theorem addr_add (b j : Nat) : (⟨b, 0, none⟩ : Addr).add j = ⟨b, j, none⟩ := by
  unfold Addr.add; split <;> simp_all
theorem rangeAt_block {w : World} {X : Nat} {cs : List Value} {t : TypeId} (h : w.heap[X]? = some (.cells cs.toArray t (0, 0))) : w.rangeAt X 0 cs := fun j v hv => by
  show w.cell? ⟨X, 0 + j, none⟩ = some v
  simp [World.cell?, h, hv]
theorem ownsRow_later {w w' : World} {base n : Nat} {e : TypeId} {size : Nat} {v : Value} {xs : List Value} (h : w.ownsRow base e size v n xs) (hl : Later w w') : w'.ownsRow base e size v n xs :=
  h.kept (row := none) ⟨hl.os, hl.tape, hl.output, hl.size, fun k hk _ => hl.block k hk⟩ (by cases v.ownBlock <;> simp)
theorem Makes.snoc {l : List (Nat × Nat)} {L : List Ev} {e : Ev} (h : Makes l L) (hk : L.length < l.length) (he : e.d = codeD (l.getD L.length (0, 0)) ∧ e.er = codeE (l.getD L.length (0, 0)) ∧ e.n = codeN (l.getD L.length (0, 0))) : Makes l (L ++ [e]) := by
  refine ⟨by simp; omega, fun i e' h' => ?_⟩
  by_cases hi : i < L.length
  · rw [List.getElem?_append_left hi] at h'
    exact h.2 i e' h'
  · rw [List.getElem?_append_right (by omega)] at h'
    by_cases h0 : i - L.length = 0
    · rw [h0] at h'
      obtain rfl : e = e' := by simpa using h'
      obtain rfl : i = L.length := by omega
      exact he
    · rw [List.getElem?_eq_none (by simp; omega)] at h'
      cases h'
theorem evC_length (e : Ev) : (evC e).length = 18 := rfl
theorem MI.next {w wr V w1 : World} {l : List (Nat × Nat)} {k : Nat} {v v' : Value} {L : List Ev} {e : Ev} (h : MI w wr l k v L) (hk : k < l.length)
    (he : e.d = codeD (l.getD k (0, 0)) ∧ e.er = codeE (l.getD k (0, 0)) ∧ e.n = codeN (l.getD k (0, 0))) (hl : Later wr V) (hown : w1.ownsRow w.heap.size 45 18 v' (k + 1) (evsC L ++ evC e)) (hg : V.grownBy w1 v.ownBlock) : MI w w1 l (k + 1) v' (L ++ [e]) := by
  obtain ⟨h1, h2, h3, h4⟩ := h
  subst h1
  refine ⟨by simp, h2.snoc hk he, ?_, ?_⟩
  · have : evsC (L ++ [e]) = evsC L ++ evC e := by simp [evsC, List.flatMap_append]
    rw [this]; exact hown
  · have hlv := h4.trans hl
    exact Below.grown hlv hg hlv.size (fun j hj => (h3.lt j hj).1)
theorem info153 : (Tryd.prog.info? 153).map (fun i => (i.zero, i.size, i.bytes)) = some (some (.agg #[.string ⟨#[]⟩, .string ⟨#[]⟩]), 2, 32) := by kernel_rfl
theorem info45 : (Tryd.prog.info? 45).map (fun i => (i.zero, i.size, i.bytes)) = some (some (.agg #[.int .i64 0, .int .i64 0, .string ⟨#[]⟩, .slice none 0 0, .int .i64 0, .int .u32 0, .int .u8 0, .int .u64 0, .int .u64 0, .int .u64 0, .int .u64 0, .int .u64 0, .int .u64 0, .int .u64 0, .int .u64 0, .int .u64 0, .int .u64 0, .complex .f64 0 0]), 18, 168) := by kernel_rfl
theorem heapA (V : World) (A B : Obj) : ((V.alloc A).alloc B).drew.heap[V.heap.size + 1]? = some B := by
  have := (MapKept.heap_alloc (V.alloc A) B).1
  rwa [show (V.alloc A).heap.size = V.heap.size + 1 by simp] at this
theorem heapB (V : World) (A B : Obj) : ((V.alloc A).alloc B).drew.heap[V.heap.size]? = some A :=
  (Below.heap_alloc (V.alloc A) B V.heap.size (by simp)).trans (MapKept.heap_alloc V A).1

set_option maxRecDepth 100000 in
set_option maxHeartbeats 4000000 in
theorem Made_is (b o : Nat) (l : List (Nat × Nat)) (cap : Nat) (w : World) (hb : b < w.heap.size) (hcap : l.length ≤ cap) (hlen : l.length ≤ 9223372036854775807)
    (hc : ∀ i, i < l.length → (l.getD i (0, 0)).1 < 256 ∧ (l.getD i (0, 0)).2 < 256 ∧ w.cell? ⟨b, o + i * 2, none⟩ = some (.int .u8 ((l.getD i (0, 0)).1 : Nat)) ∧ w.cell? ⟨b, o + i * 2 + 1, none⟩ = some (.int .u8 ((l.getD i (0, 0)).2 : Nat))) 
    (m : Nat) (hm : (if (60 : Int) < (l.length : Int) then (60 : Int) else (l.length : Int)) = (m : Int)) :
    Calls Tryd.prog 9 #[.slice (some ⟨b, o, none⟩) l.length cap] w fun e w' => ∃ v L, e = .returned v ∧ MI w w' l m v L := by
  have hml : m ≤ l.length ∧ m ≤ 60 := by split at hm <;> omega
  have hcap2 : (m : Int) ≤ (cap : Int) := by omega
  obtain ⟨i0, hi0, hiz, his, hib⟩ := info_parts info45
  obtain ⟨j0, hj0, hjz, hjs, hjb⟩ := info_parts info153
  have HC := Lib.hid hc
  clear hc
  go_enter Tryd.func9, Tryd.ntmps9
  go_wp2_with fail
  go_loopw [3, 13] (fun v i wr => ∃ k L, k ≤ m ∧ i = .int .i64 (k : Nat) ∧ MI w wr l k v L) (fun _ i _ => m - (RowKit.intOf i).toNat)
  case atStart => exact ⟨0, [], by omega, rfl, rfl, ⟨by simp, fun i e h => by simp at h⟩, World.ownsRow_nil _ _ _ _, Later.refl _⟩
  case round =>
    obtain ⟨k, L, hk, rfl, hMI⟩ := hrel
    rename World => wk
    by_cases hlt : k < m
    · have hd1 : decide ((k : Int) < (m : Int)) = true := by simpa using hlt
      obtain ⟨h1, h2, h3, h4⟩ := HC.out k (by omega)
      have c0 := cell_at hMI.2.2.2 h3 hb
      have c1 := cell_at hMI.2.2.2 h4 hb
      clear h3 h4
      obtain ⟨x, hx⟩ : ∃ x, (l.getD k (0, 0)).1 = x := ⟨_, rfl⟩
      obtain ⟨y, hy⟩ : ∃ y, (l.getD k (0, 0)).2 = y := ⟨_, rfl⟩
      rw [hx] at h1 c0
      rw [hy] at h2 c1
      have HXY := Lib.hid (And.intro hx hy)
      clear hx hy
      obtain ⟨p, hp⟩ : ∃ p, x % 6 = p := ⟨_, rfl⟩
      obtain ⟨q, hq⟩ : ∃ q, y % 8 = q := ⟨_, rfl⟩
      have hq1 : (x : Int) % 6 = (p : Int) := by omega
      have hq2 : (y : Int) % 8 = (q : Int) := by omega
      have hq3 : (q : Int) < 8 := by omega
      have hq4 : (p : Int) < 6 := by omega
      have hq5 : q < 8 := by omega
      have hq6 : (x : Int).tmod 6 = (p : Int) := by rw [Int.tmod_eq_emod_of_nonneg (by omega)]; exact hq1
      have hq7 : (y : Int).tmod 8 = (q : Int) := by rw [Int.tmod_eq_emod_of_nonneg (by omega)]; exact hq2
      have hq8 : IntKind.u8.wrap (p : Int) = (p : Int) := by rw [IntKind.wrap_u8]; omega
      have hq9 : IntKind.u8.wrap (q : Int) = (q : Int) := by rw [IntKind.wrap_u8]; omega
      have hq10 : IntKind.u8.wrap (1 + (p : Int)) = 1 + (p : Int) := by rw [IntKind.wrap_u8]; omega
      have hq11 : IntKind.i64.wrap (1 + (p : Int)) = 1 + (p : Int) := IntWalk.i64_in _ (by omega)
      have HPQ := Lib.hid (And.intro hp hq)
      clear hp hq
      have herr := fun V => errs_cell V q hq5
      obtain ⟨er, her⟩ : ∃ er, errs.getD q 0 = er := ⟨_, rfl⟩
      rw [her] at herr
      have HER := Lib.hid her
      clear her
      have herr2 : ∀ (V : World) (ob : Obj), ((V.alloc (Obj.cells #[.int .i64 0, .int .i64 0, .int .i64 5, .int .i64 10, .int .i64 11, .int .i64 12, .int .i64 13, .int .i64 2] 37)).alloc ob).cell? ⟨V.heap.size, q, none⟩ = some (.int .i64 er) := fun V ob => cell_at ((Later.refl _).alloc ob) (herr V) (by simp)
      have herr3 : ∀ (V : World) (ob : Obj), ((V.alloc ob).alloc (Obj.cells #[.int .i64 0, .int .i64 0, .int .i64 5, .int .i64 10, .int .i64 11, .int .i64 12, .int .i64 13, .int .i64 2] 37)).cell? ⟨V.heap.size + 1, q, none⟩ = some (.int .i64 er) := fun V ob => by
        have h := herr (V.alloc ob)
        rwa [show (V.alloc ob).heap.size = V.heap.size + 1 by simp] at h
      go_wp2_with fail
      obtain ⟨W, hW⟩ : ∃ W, wk.alloc (Obj.cells #[Value.int IntKind.u8 x, Value.int IntKind.u8 y] 67) = W := ⟨_, rfl⟩
      obtain ⟨T, hT⟩ : ∃ T, wk.heap.size = T := ⟨_, rfl⟩
      have k0 : W.cell? ⟨T, 0, none⟩ = some (.int .u8 x) := by rw [← hW, ← hT]; simp
      have k1 : W.cell? ⟨T, 1, none⟩ = some (.int .u8 y) := by rw [← hW, ← hT]; simp
      have hlW : Later wk W := by rw [← hW]; exact (Later.refl _).alloc _
      have hb0 : T < W.heap.size := by rw [← hW, ← hT]; simp
      rw [hW, hT]
      have HTW := Lib.hid (And.intro hW hT)
      clear hW hT
      have HW : Later W W := Later.refl W
      go_cut [5, 6] from 14 to 49 (fun s5 s6 V => ∃ X, s5 = .pointer (some ⟨T, 0, none⟩) ∧ s6 = .pointer (some ⟨X, 0, none⟩) ∧ (T < X ∧ X < V.heap.size) ∧ Later W V ∧ V.heap[X]? = some (.cells #[.int .i64 (1 + (p : Int)), .int .i64 (er), .string ⟨#[]⟩, .slice none 0 0, .int .i64 0, .int .u32 0, .int .u8 0, .int .u64 0, .int .u64 0, .int .u64 0, .int .u64 0, .int .u64 0, .int .u64 0, .int .u64 0, .int .u64 0, .int .u64 0, .int .u64 0, .complex .f64 0 0] 45 (0, 0)))
      case first =>
        refine wp_region_noPanic ?_
        refine wp_region_held_drew (S := fun w' => Later W w' ∧ w'.cell? ⟨T, 0, none⟩ = some (.int .u8 x) ∧ w'.cell? ⟨T, 1, none⟩ = some (.int .u8 y)) (by kernel_rfl) ⟨HW.drew, k0, k1⟩ (fun hHeld => ?_)
        refine wpAnyH_take (i := 0) (v := ?_) rfl (by kernel_rfl) (by kernel_rfl) (by kernel_rfl) (fun _ _ _ h => h) (Or.inl ⟨by rfl, ?_⟩) (by assumption) ?_
        rotate_left
        · (intro w hSw; (try dsimp only at hSw); go_simp)
          all_goals with_reducible rfl
        try simp only [Act.put, List.setIfInBounds_toArray, List.set_cons_zero, List.set_cons_succ, List.getElem_toArray, List.getElem_cons_zero, List.getElem_cons_succ]
        refine wpAnyH_take (i := 1) (v := ?_) rfl (by kernel_rfl) (by kernel_rfl) (by kernel_rfl) (fun _ _ _ h => h) (Or.inl ⟨by rfl, ?_⟩) (by assumption) ?_
        rotate_left
        · (intro w hSw; (try dsimp only at hSw); go_simp)
          all_goals with_reducible rfl
        try simp only [Act.put, List.setIfInBounds_toArray, List.set_cons_zero, List.set_cons_succ, List.getElem_toArray, List.getElem_cons_zero, List.getElem_cons_succ]
        refine wpAnyH_take (i := 2) (v := ?_) rfl (by kernel_rfl) (by kernel_rfl) (by kernel_rfl) (fun _ _ _ h => h) (Or.inl ⟨by rfl, ?_⟩) (by assumption) ?_
        rotate_left
        · (intro w hSw; (try dsimp only at hSw); go_simp)
          all_goals with_reducible rfl
        try simp only [Act.put, List.setIfInBounds_toArray, List.set_cons_zero, List.set_cons_succ, List.getElem_toArray, List.getElem_cons_zero, List.getElem_cons_succ]
        refine wpAnyH_take (i := 3) (v := ?_) rfl (by kernel_rfl) (by kernel_rfl) (by kernel_rfl) (fun _ _ _ h => h) (Or.inl ⟨by rfl, ?_⟩) (by assumption) ?_
        rotate_left
        · (intro w hSw; (try dsimp only at hSw); go_simp)
          all_goals with_reducible rfl
        try simp only [Act.put, List.setIfInBounds_toArray, List.set_cons_zero, List.set_cons_succ, List.getElem_toArray, List.getElem_cons_zero, List.getElem_cons_succ]
        refine wpAnyH_take (i := 4) (v := ?_) rfl (by kernel_rfl) (by kernel_rfl) (by kernel_rfl) (fun _ _ _ h => h) (Or.inl ⟨by rfl, ?_⟩) (by assumption) ?_
        rotate_left
        · (intro w hSw; (try dsimp only at hSw); go_simp)
          all_goals with_reducible rfl
        try simp only [Act.put, List.setIfInBounds_toArray, List.set_cons_zero, List.set_cons_succ, List.getElem_toArray, List.getElem_cons_zero, List.getElem_cons_succ]
        refine wpAnyH_take (i := 6) (v := ?_) rfl (by kernel_rfl) (by kernel_rfl) (by kernel_rfl) (fun _ _ _ h => h) (Or.inl ⟨by rfl, ?_⟩) (by assumption) ?_
        rotate_left
        · (intro w hSw; (try dsimp only at hSw); go_simp)
          all_goals with_reducible rfl
        try simp only [Act.put, List.setIfInBounds_toArray, List.set_cons_zero, List.set_cons_succ, List.getElem_toArray, List.getElem_cons_zero, List.getElem_cons_succ]
        refine wpAnyH_take (i := 7) (v := ?_) rfl (by kernel_rfl) (by kernel_rfl) (by kernel_rfl) (fun _ _ _ h => h) (Or.inl ⟨by rfl, ?_⟩) (by assumption) ?_
        rotate_left
        · (intro w hSw; (try dsimp only at hSw); go_simp)
          all_goals with_reducible rfl
        try simp only [Act.put, List.setIfInBounds_toArray, List.set_cons_zero, List.set_cons_succ, List.getElem_toArray, List.getElem_cons_zero, List.getElem_cons_succ]
        refine wpAnyH_take (i := 8) (v := ?_) rfl (by kernel_rfl) (by kernel_rfl) (by kernel_rfl) (fun _ _ _ h => h) (Or.inl ⟨by rfl, ?_⟩) (by assumption) ?_
        rotate_left
        · (intro w hSw; (try dsimp only at hSw); go_simp)
          all_goals with_reducible rfl
        try simp only [Act.put, List.setIfInBounds_toArray, List.set_cons_zero, List.set_cons_succ, List.getElem_toArray, List.getElem_cons_zero, List.getElem_cons_succ]
        refine wpAnyH_ready (rs := [5, 13]) (by kernel_rfl) (by simp) ?_
        refine AllReadyH.cons (i := 5) rfl (fun K hK => ?_) ?_
        · try simp only [List.getElem_toArray, List.getElem_cons_zero, List.getElem_cons_succ]
          go_simp
          refine hK.out _ _ ⟨by repeat (first | exact Later.refl _ | assumption | apply Later.drew | apply Later.alloc), by go_keep, by go_keep⟩ (fun hHeld => ?_)
          clear hK K
          try simp only [Act.put, List.setIfInBounds_toArray, List.set_cons_zero, List.set_cons_succ, List.getElem_toArray, List.getElem_cons_zero, List.getElem_cons_succ]
          refine wpAnyH_take (i := 9) (v := ?_) rfl (by kernel_rfl) (by kernel_rfl) (by kernel_rfl) (fun _ _ _ h => h) (Or.inl ⟨by rfl, ?_⟩) (by assumption) ?_
          rotate_left
          · (intro w hSw; (try dsimp only at hSw); go_simp)
            all_goals with_reducible rfl
          try simp only [Act.put, List.setIfInBounds_toArray, List.set_cons_zero, List.set_cons_succ, List.getElem_toArray, List.getElem_cons_zero, List.getElem_cons_succ]
          refine wpAnyH_ready (rs := [10, 13]) (by kernel_rfl) (by simp) ?_
          refine AllReadyH.cons (i := 10) rfl (fun K hK => ?_) ?_
          · try simp only [List.getElem_toArray, List.getElem_cons_zero, List.getElem_cons_succ]
            go_simp
            refine hK.out _ _ ⟨by repeat (first | exact Later.refl _ | assumption | apply Later.drew | apply Later.alloc), by go_keep, by go_keep⟩ (fun hHeld => ?_)
            clear hK K
            try simp only [Act.put, List.setIfInBounds_toArray, List.set_cons_zero, List.set_cons_succ, List.getElem_toArray, List.getElem_cons_zero, List.getElem_cons_succ]
            refine wpAnyH_take (i := 11) (v := ?_) rfl (by kernel_rfl) (by kernel_rfl) (by kernel_rfl) (fun _ _ _ h => h) (Or.inl ⟨by rfl, ?_⟩) (by assumption) ?_
            rotate_left
            · (intro w hSw; (try dsimp only at hSw); go_simp)
              all_goals with_reducible rfl
            try simp only [Act.put, List.setIfInBounds_toArray, List.set_cons_zero, List.set_cons_succ, List.getElem_toArray, List.getElem_cons_zero, List.getElem_cons_succ]
            refine wpAnyH_take (i := 12) (v := ?_) rfl (by kernel_rfl) (by kernel_rfl) (by kernel_rfl) (fun _ _ _ h => h) (Or.inl ⟨by rfl, ?_⟩) (by assumption) ?_
            rotate_left
            · (intro w hSw; (try dsimp only at hSw); go_simp)
              all_goals with_reducible rfl
            try simp only [Act.put, List.setIfInBounds_toArray, List.set_cons_zero, List.set_cons_succ, List.getElem_toArray, List.getElem_cons_zero, List.getElem_cons_succ]
            refine wpAnyH_ready (rs := [13]) (by kernel_rfl) (by simp) ?_
            refine AllReadyH.cons (i := 13) rfl (fun K hK => ?_) ?_
            · try simp only [List.getElem_toArray, List.getElem_cons_zero, List.getElem_cons_succ]
              go_simp
              refine hK.out _ _ ⟨by repeat (first | exact Later.refl _ | assumption | apply Later.drew | apply Later.alloc), by go_keep, by go_keep⟩ (fun hHeld => ?_)
              clear hK K
              try simp only [Act.put, List.setIfInBounds_toArray, List.set_cons_zero, List.set_cons_succ, List.getElem_toArray, List.getElem_cons_zero, List.getElem_cons_succ]
              refine wpAnyH_ready (rs := [14]) (by kernel_rfl) (by simp) ?_
              refine AllReadyH.cons (i := 14) rfl (fun K hK => ?_) ?_
              · try simp only [List.getElem_toArray, List.getElem_cons_zero, List.getElem_cons_succ]
                rw [if_pos (by rfl)]
                have hg := heapA W (.cells #[.int .i64 0, .int .i64 0, .int .i64 5, .int .i64 10, .int .i64 11, .int .i64 12, .int .i64 13, .int .i64 2] 37) (.cells #[.int .i64 0, .int .i64 0, .string ⟨#[]⟩, .slice none 0 0, .int .i64 0, .int .u32 0, .int .u8 0, .int .u64 0, .int .u64 0, .int .u64 0, .int .u64 0, .int .u64 0, .int .u64 0, .int .u64 0, .int .u64 0, .int .u64 0, .int .u64 0, .complex .f64 0 0] 45)
                have hl3 : Later W (World.setRow ((W.alloc (.cells #[.int .i64 0, .int .i64 0, .int .i64 5, .int .i64 10, .int .i64 11, .int .i64 12, .int .i64 13, .int .i64 2] 37)).alloc (.cells #[.int .i64 0, .int .i64 0, .string ⟨#[]⟩, .slice none 0 0, .int .i64 0, .int .u32 0, .int .u8 0, .int .u64 0, .int .u64 0, .int .u64 0, .int .u64 0, .int .u64 0, .int .u64 0, .int .u64 0, .int .u64 0, .int .u64 0, .int .u64 0, .complex .f64 0 0] 45)).drew (W.heap.size + 1) #[.int .i64 (1 + (p : Int)), .int .i64 (er), .string ⟨#[]⟩, .slice none 0 0, .int .i64 0, .int .u32 0, .int .u8 0, .int .u64 0, .int .u64 0, .int .u64 0, .int .u64 0, .int .u64 0, .int .u64 0, .int .u64 0, .int .u64 0, .int .u64 0, .int .u64 0, .complex .f64 0 0]) := below_setRow (((HW.alloc _).alloc _).drew) (by omega) _
                refine wp_store_row 45 (.tmp 6) (.tmp 29) rfl (W.heap.size + 1) #[.int .i64 (1 + (p : Int)), .int .i64 (er), .string ⟨#[]⟩, .slice none 0 0, .int .i64 0, .int .u32 0, .int .u8 0, .int .u64 0, .int .u64 0, .int .u64 0, .int .u64 0, .int .u64 0, .int .u64 0, .int .u64 0, .int .u64 0, .int .u64 0, .int .u64 0, .complex .f64 0 0] rfl rfl 45 #[.int .i64 0, .int .i64 0, .string ⟨#[]⟩, .slice none 0 0, .int .i64 0, .int .u32 0, .int .u8 0, .int .u64 0, .int .u64 0, .int .u64 0, .int .u64 0, .int .u64 0, .int .u64 0, .int .u64 0, .int .u64 0, .int .u64 0, .int .u64 0, .complex .f64 0 0] hg (by kernel_rfl) rfl (by kernel_rfl) ?_
                refine hK.out _ _ ⟨hl3, cell_at hl3 k0 hb0, cell_at hl3 k1 hb0⟩ (fun hHeld => ?_)
                clear hK K
                try simp only [Act.put, List.setIfInBounds_toArray, List.set_cons_zero, List.set_cons_succ, List.getElem_toArray, List.getElem_cons_zero, List.getElem_cons_succ]
                refine wpAnyH_done (by kernel_rfl) ?_ _
                refine NoPanic.normal ?_
                go_wp2_with fail
                go_meet
                exact ⟨_, rfl, rfl, ⟨by omega, by simp <;> omega⟩, hl3, setRow_heap _ _ _ _ _ _ hg⟩
              exact AllReadyH.nil
            exact AllReadyH.nil
          refine AllReadyH.cons (i := 13) rfl (fun K hK => ?_) ?_
          · try simp only [List.getElem_toArray, List.getElem_cons_zero, List.getElem_cons_succ]
            go_simp
            refine hK.out _ _ ⟨by repeat (first | exact Later.refl _ | assumption | apply Later.drew | apply Later.alloc), by go_keep, by go_keep⟩ (fun hHeld => ?_)
            clear hK K
            try simp only [Act.put, List.setIfInBounds_toArray, List.set_cons_zero, List.set_cons_succ, List.getElem_toArray, List.getElem_cons_zero, List.getElem_cons_succ]
            refine wpAnyH_ready (rs := [10]) (by kernel_rfl) (by simp) ?_
            refine AllReadyH.cons (i := 10) rfl (fun K hK => ?_) ?_
            · try simp only [List.getElem_toArray, List.getElem_cons_zero, List.getElem_cons_succ]
              go_simp
              refine hK.out _ _ ⟨by repeat (first | exact Later.refl _ | assumption | apply Later.drew | apply Later.alloc), by go_keep, by go_keep⟩ (fun hHeld => ?_)
              clear hK K
              try simp only [Act.put, List.setIfInBounds_toArray, List.set_cons_zero, List.set_cons_succ, List.getElem_toArray, List.getElem_cons_zero, List.getElem_cons_succ]
              refine wpAnyH_take (i := 11) (v := ?_) rfl (by kernel_rfl) (by kernel_rfl) (by kernel_rfl) (fun _ _ _ h => h) (Or.inl ⟨by rfl, ?_⟩) (by assumption) ?_
              rotate_left
              · (intro w hSw; (try dsimp only at hSw); go_simp)
                all_goals with_reducible rfl
              try simp only [Act.put, List.setIfInBounds_toArray, List.set_cons_zero, List.set_cons_succ, List.getElem_toArray, List.getElem_cons_zero, List.getElem_cons_succ]
              refine wpAnyH_take (i := 12) (v := ?_) rfl (by kernel_rfl) (by kernel_rfl) (by kernel_rfl) (fun _ _ _ h => h) (Or.inl ⟨by rfl, ?_⟩) (by assumption) ?_
              rotate_left
              · (intro w hSw; (try dsimp only at hSw); go_simp)
                all_goals with_reducible rfl
              try simp only [Act.put, List.setIfInBounds_toArray, List.set_cons_zero, List.set_cons_succ, List.getElem_toArray, List.getElem_cons_zero, List.getElem_cons_succ]
              refine wpAnyH_ready (rs := [14]) (by kernel_rfl) (by simp) ?_
              refine AllReadyH.cons (i := 14) rfl (fun K hK => ?_) ?_
              · try simp only [List.getElem_toArray, List.getElem_cons_zero, List.getElem_cons_succ]
                rw [if_pos (by rfl)]
                have hg := heapA W (.cells #[.int .i64 0, .int .i64 0, .int .i64 5, .int .i64 10, .int .i64 11, .int .i64 12, .int .i64 13, .int .i64 2] 37) (.cells #[.int .i64 0, .int .i64 0, .string ⟨#[]⟩, .slice none 0 0, .int .i64 0, .int .u32 0, .int .u8 0, .int .u64 0, .int .u64 0, .int .u64 0, .int .u64 0, .int .u64 0, .int .u64 0, .int .u64 0, .int .u64 0, .int .u64 0, .int .u64 0, .complex .f64 0 0] 45)
                have hl3 : Later W (World.setRow ((W.alloc (.cells #[.int .i64 0, .int .i64 0, .int .i64 5, .int .i64 10, .int .i64 11, .int .i64 12, .int .i64 13, .int .i64 2] 37)).alloc (.cells #[.int .i64 0, .int .i64 0, .string ⟨#[]⟩, .slice none 0 0, .int .i64 0, .int .u32 0, .int .u8 0, .int .u64 0, .int .u64 0, .int .u64 0, .int .u64 0, .int .u64 0, .int .u64 0, .int .u64 0, .int .u64 0, .int .u64 0, .int .u64 0, .complex .f64 0 0] 45)).drew (W.heap.size + 1) #[.int .i64 (1 + (p : Int)), .int .i64 (er), .string ⟨#[]⟩, .slice none 0 0, .int .i64 0, .int .u32 0, .int .u8 0, .int .u64 0, .int .u64 0, .int .u64 0, .int .u64 0, .int .u64 0, .int .u64 0, .int .u64 0, .int .u64 0, .int .u64 0, .int .u64 0, .complex .f64 0 0]) := below_setRow (((HW.alloc _).alloc _).drew) (by omega) _
                refine wp_store_row 45 (.tmp 6) (.tmp 29) rfl (W.heap.size + 1) #[.int .i64 (1 + (p : Int)), .int .i64 (er), .string ⟨#[]⟩, .slice none 0 0, .int .i64 0, .int .u32 0, .int .u8 0, .int .u64 0, .int .u64 0, .int .u64 0, .int .u64 0, .int .u64 0, .int .u64 0, .int .u64 0, .int .u64 0, .int .u64 0, .int .u64 0, .complex .f64 0 0] rfl rfl 45 #[.int .i64 0, .int .i64 0, .string ⟨#[]⟩, .slice none 0 0, .int .i64 0, .int .u32 0, .int .u8 0, .int .u64 0, .int .u64 0, .int .u64 0, .int .u64 0, .int .u64 0, .int .u64 0, .int .u64 0, .int .u64 0, .int .u64 0, .int .u64 0, .complex .f64 0 0] hg (by kernel_rfl) rfl (by kernel_rfl) ?_
                refine hK.out _ _ ⟨hl3, cell_at hl3 k0 hb0, cell_at hl3 k1 hb0⟩ (fun hHeld => ?_)
                clear hK K
                try simp only [Act.put, List.setIfInBounds_toArray, List.set_cons_zero, List.set_cons_succ, List.getElem_toArray, List.getElem_cons_zero, List.getElem_cons_succ]
                refine wpAnyH_done (by kernel_rfl) ?_ _
                refine NoPanic.normal ?_
                go_wp2_with fail
                go_meet
                exact ⟨_, rfl, rfl, ⟨by omega, by simp <;> omega⟩, hl3, setRow_heap _ _ _ _ _ _ hg⟩
              exact AllReadyH.nil
            exact AllReadyH.nil
          exact AllReadyH.nil
        refine AllReadyH.cons (i := 13) rfl (fun K hK => ?_) ?_
        · try simp only [List.getElem_toArray, List.getElem_cons_zero, List.getElem_cons_succ]
          go_simp
          refine hK.out _ _ ⟨by repeat (first | exact Later.refl _ | assumption | apply Later.drew | apply Later.alloc), by go_keep, by go_keep⟩ (fun hHeld => ?_)
          clear hK K
          try simp only [Act.put, List.setIfInBounds_toArray, List.set_cons_zero, List.set_cons_succ, List.getElem_toArray, List.getElem_cons_zero, List.getElem_cons_succ]
          refine wpAnyH_ready (rs := [5]) (by kernel_rfl) (by simp) ?_
          refine AllReadyH.cons (i := 5) rfl (fun K hK => ?_) ?_
          · try simp only [List.getElem_toArray, List.getElem_cons_zero, List.getElem_cons_succ]
            go_simp
            refine hK.out _ _ ⟨by repeat (first | exact Later.refl _ | assumption | apply Later.drew | apply Later.alloc), by go_keep, by go_keep⟩ (fun hHeld => ?_)
            clear hK K
            try simp only [Act.put, List.setIfInBounds_toArray, List.set_cons_zero, List.set_cons_succ, List.getElem_toArray, List.getElem_cons_zero, List.getElem_cons_succ]
            refine wpAnyH_take (i := 9) (v := ?_) rfl (by kernel_rfl) (by kernel_rfl) (by kernel_rfl) (fun _ _ _ h => h) (Or.inl ⟨by rfl, ?_⟩) (by assumption) ?_
            rotate_left
            · (intro w hSw; (try dsimp only at hSw); go_simp)
              all_goals with_reducible rfl
            try simp only [Act.put, List.setIfInBounds_toArray, List.set_cons_zero, List.set_cons_succ, List.getElem_toArray, List.getElem_cons_zero, List.getElem_cons_succ]
            refine wpAnyH_ready (rs := [10]) (by kernel_rfl) (by simp) ?_
            refine AllReadyH.cons (i := 10) rfl (fun K hK => ?_) ?_
            · try simp only [List.getElem_toArray, List.getElem_cons_zero, List.getElem_cons_succ]
              go_simp
              refine hK.out _ _ ⟨by repeat (first | exact Later.refl _ | assumption | apply Later.drew | apply Later.alloc), by go_keep, by go_keep⟩ (fun hHeld => ?_)
              clear hK K
              try simp only [Act.put, List.setIfInBounds_toArray, List.set_cons_zero, List.set_cons_succ, List.getElem_toArray, List.getElem_cons_zero, List.getElem_cons_succ]
              refine wpAnyH_take (i := 11) (v := ?_) rfl (by kernel_rfl) (by kernel_rfl) (by kernel_rfl) (fun _ _ _ h => h) (Or.inl ⟨by rfl, ?_⟩) (by assumption) ?_
              rotate_left
              · (intro w hSw; (try dsimp only at hSw); go_simp)
                all_goals with_reducible rfl
              try simp only [Act.put, List.setIfInBounds_toArray, List.set_cons_zero, List.set_cons_succ, List.getElem_toArray, List.getElem_cons_zero, List.getElem_cons_succ]
              refine wpAnyH_take (i := 12) (v := ?_) rfl (by kernel_rfl) (by kernel_rfl) (by kernel_rfl) (fun _ _ _ h => h) (Or.inl ⟨by rfl, ?_⟩) (by assumption) ?_
              rotate_left
              · (intro w hSw; (try dsimp only at hSw); go_simp)
                all_goals with_reducible rfl
              try simp only [Act.put, List.setIfInBounds_toArray, List.set_cons_zero, List.set_cons_succ, List.getElem_toArray, List.getElem_cons_zero, List.getElem_cons_succ]
              refine wpAnyH_ready (rs := [14]) (by kernel_rfl) (by simp) ?_
              refine AllReadyH.cons (i := 14) rfl (fun K hK => ?_) ?_
              · try simp only [List.getElem_toArray, List.getElem_cons_zero, List.getElem_cons_succ]
                rw [if_pos (by rfl)]
                have hg := heapB W (.cells #[.int .i64 0, .int .i64 0, .string ⟨#[]⟩, .slice none 0 0, .int .i64 0, .int .u32 0, .int .u8 0, .int .u64 0, .int .u64 0, .int .u64 0, .int .u64 0, .int .u64 0, .int .u64 0, .int .u64 0, .int .u64 0, .int .u64 0, .int .u64 0, .complex .f64 0 0] 45) (.cells #[.int .i64 0, .int .i64 0, .int .i64 5, .int .i64 10, .int .i64 11, .int .i64 12, .int .i64 13, .int .i64 2] 37)
                have hl3 : Later W (World.setRow ((W.alloc (.cells #[.int .i64 0, .int .i64 0, .string ⟨#[]⟩, .slice none 0 0, .int .i64 0, .int .u32 0, .int .u8 0, .int .u64 0, .int .u64 0, .int .u64 0, .int .u64 0, .int .u64 0, .int .u64 0, .int .u64 0, .int .u64 0, .int .u64 0, .int .u64 0, .complex .f64 0 0] 45)).alloc (.cells #[.int .i64 0, .int .i64 0, .int .i64 5, .int .i64 10, .int .i64 11, .int .i64 12, .int .i64 13, .int .i64 2] 37)).drew (W.heap.size) #[.int .i64 (1 + (p : Int)), .int .i64 (er), .string ⟨#[]⟩, .slice none 0 0, .int .i64 0, .int .u32 0, .int .u8 0, .int .u64 0, .int .u64 0, .int .u64 0, .int .u64 0, .int .u64 0, .int .u64 0, .int .u64 0, .int .u64 0, .int .u64 0, .int .u64 0, .complex .f64 0 0]) := below_setRow (((HW.alloc _).alloc _).drew) (by omega) _
                refine wp_store_row 45 (.tmp 6) (.tmp 29) rfl (W.heap.size) #[.int .i64 (1 + (p : Int)), .int .i64 (er), .string ⟨#[]⟩, .slice none 0 0, .int .i64 0, .int .u32 0, .int .u8 0, .int .u64 0, .int .u64 0, .int .u64 0, .int .u64 0, .int .u64 0, .int .u64 0, .int .u64 0, .int .u64 0, .int .u64 0, .int .u64 0, .complex .f64 0 0] rfl rfl 45 #[.int .i64 0, .int .i64 0, .string ⟨#[]⟩, .slice none 0 0, .int .i64 0, .int .u32 0, .int .u8 0, .int .u64 0, .int .u64 0, .int .u64 0, .int .u64 0, .int .u64 0, .int .u64 0, .int .u64 0, .int .u64 0, .int .u64 0, .int .u64 0, .complex .f64 0 0] hg (by kernel_rfl) rfl (by kernel_rfl) ?_
                refine hK.out _ _ ⟨hl3, cell_at hl3 k0 hb0, cell_at hl3 k1 hb0⟩ (fun hHeld => ?_)
                clear hK K
                try simp only [Act.put, List.setIfInBounds_toArray, List.set_cons_zero, List.set_cons_succ, List.getElem_toArray, List.getElem_cons_zero, List.getElem_cons_succ]
                refine wpAnyH_done (by kernel_rfl) ?_ _
                refine NoPanic.normal ?_
                go_wp2_with fail
                go_meet
                exact ⟨_, rfl, rfl, ⟨by omega, by simp <;> omega⟩, hl3, setRow_heap _ _ _ _ _ _ hg⟩
              exact AllReadyH.nil
            exact AllReadyH.nil
          exact AllReadyH.nil
        exact AllReadyH.nil
      case rest =>
        obtain ⟨X, rfl, rfl, ⟨hX1, hX2⟩, hlV, hXb⟩ := hcut
        rename World => V
        obtain ⟨D, hD⟩ : ∃ D, 1 + (p : Int) = D := ⟨_, rfl⟩
        rw [hD] at hXb
        have x0 : V.cell? ⟨X, 0, none⟩ = some (.int .i64 D) := by simp [World.cell?, hXb]
        have x1 : V.cell? ⟨X, 1, none⟩ = some (.int .i64 er) := by simp [World.cell?, hXb]
        have x3 : V.cell? ⟨X, 3, none⟩ = some (.slice none 0 0) := by simp [World.cell?, hXb]
        have xf : V.frozen? ⟨X, 3, none⟩ = false := by simp [World.frozen?, hXb]
        have t1 := cell_at hlV k1 hb0
        have hcD : codeD (x, y) = D := by rw [← hD, ← HPQ.out.1]; rfl
        have hcE : codeE (x, y) = er := by rw [← HER.out, ← HPQ.out.2]; rfl
        have HCD := Lib.hid (And.intro hcD hcE)
        clear hcD hcE hq1 hq2 hq3 hq4 hq5 hq6 hq7 hq8 hq9 hq10 hq11 herr herr2 herr3 hD k0 k1
        have hTV : T < V.heap.size := by omega
        have hyb : (y : Int) < 256 := by omega
        by_cases hA : D = 5 ∧ er = 0
        · obtain ⟨rfl, rfl⟩ := hA
          go_upto_region 7 with fail
          obtain ⟨n, hn⟩ : ∃ n, y / 16 = n := ⟨_, rfl⟩
          have hn16 : n < 16 := by omega
          have hn1 : IntKind.u8.wrap ((y : Int) / 16) = (n : Int) := by rw [IntKind.wrap_u8]; omega
          have hn2 : (y : Int) / 16 = (n : Int) := by omega
          obtain ⟨M, hM⟩ : ∃ M, madeCells (Value.agg #[.string ⟨#[]⟩, .string ⟨#[]⟩]).cells (n * 2) = M := ⟨_, rfl⟩
          have hmk : ∀ U : World, (Instr.makeSlice 38 (.int .u8 (n : Int)) (.int .u8 (n : Int))).run Tryd.prog U = .ok (.slice (some ⟨U.heap.size, 0, none⟩) n n) (U.alloc (.cells (M) 153)) := fun U => by
            have h := run_make (P := Tryd.prog) U 38 153 j0 (Value.agg #[.string ⟨#[]⟩, .string ⟨#[]⟩]) Tryd.underlying38 hj0 hjz .u8 .u8 (n : Int) (n : Int) (by omega) (by omega) (by rw [hjb]; omega) (by omega)
            rw [hjs, Int.toNat_natCast, hM] at h
            exact h
          clear hM
          have HE := Lib.hid (show (5 : Int) = codeD (l.getD k (0, 0)) ∧ (0 : Int) = codeE (l.getD k (0, 0)) ∧ n = codeN (l.getD k (0, 0)) from by
            have e : l.getD k (0, 0) = (x, y) := Prod.ext HXY.out.1 HXY.out.2
            rw [e]
            exact ⟨HCD.out.1.symm, HCD.out.2.symm, by rw [codeN, if_pos ⟨HCD.out.1, HCD.out.2⟩]; exact hn.symm⟩)
          clear hn
          go_upto_region 8 with fail
          clear hn1 hn2
          have hb2 : ((V.setCell ⟨X, 3, none⟩ (.slice (some ⟨V.heap.size, 0, none⟩) n n)).alloc (.cells (M) 153)).heap[X]? = some (.cells [.int .i64 5, .int .i64 0, .string ⟨#[]⟩, .slice (some ⟨V.heap.size, 0, none⟩) n n, .int .i64 0, .int .u32 0, .int .u8 0, .int .u64 0, .int .u64 0, .int .u64 0, .int .u64 0, .int .u64 0, .int .u64 0, .int .u64 0, .int .u64 0, .int .u64 0, .int .u64 0, .complex .f64 0 0].toArray 45 (0, 0)) := by
            rw [setCell_eq_setRow V X 3 _ 45 (0, 0) _ hXb, Below.heap_alloc _ _ X (by simpa using hX2), setRow_heap V X _ _ 45 (0, 0) hXb]
            rfl
          have hlV2 : Later wk ((V.setCell ⟨X, 3, none⟩ (.slice (some ⟨V.heap.size, 0, none⟩) n n)).alloc (.cells (M) 153)) := ((hlW.trans hlV).setCell _ _ (by show wk.heap.size ≤ X; rw [HTW.out.2]; omega)).alloc _
          clear hmk
          have hev : evC ⟨5, 0, some ⟨V.heap.size, 0, none⟩, n, n⟩ = [.int .i64 5, .int .i64 0, .string ⟨#[]⟩, .slice (some ⟨V.heap.size, 0, none⟩) n n, .int .i64 0, .int .u32 0, .int .u8 0, .int .u64 0, .int .u64 0, .int .u64 0, .int .u64 0, .int .u64 0, .int .u64 0, .int .u64 0, .int .u64 0, .int .u64 0, .int .u64 0, .complex .f64 0 0] := rfl
          have HRG := Lib.hid (rangeAt_block (w := ((V.setCell ⟨X, 3, none⟩ (.slice (some ⟨V.heap.size, 0, none⟩) n n)).alloc (.cells (M) 153))) (cs := [.int .i64 5, .int .i64 0, .string ⟨#[]⟩, .slice (some ⟨V.heap.size, 0, none⟩) n n, .int .i64 0, .int .u32 0, .int .u8 0, .int .u64 0, .int .u64 0, .int .u64 0, .int .u64 0, .int .u64 0, .int .u64 0, .int .u64 0, .int .u64 0, .int .u64 0, .int .u64 0, .complex .f64 0 0]) hb2)
          have hown := ownsRow_later hMI.2.2.1 hlV2
          obtain ⟨V2, hV2⟩ : ∃ V2, ((V.setCell ⟨X, 3, none⟩ (.slice (some ⟨V.heap.size, 0, none⟩) n n)).alloc (.cells (M) 153)) = V2 := ⟨_, rfl⟩
          try rw [hV2]
          rw [hV2] at HRG hown hlV2
          have HL := Lib.hid hlV2
          have HOWN := Lib.hid hown
          have HMI := Lib.hid hMI
          have hwV := (hMI.2.2.2.trans hlV2).size
          have HEV := Lib.hid hev
          clear hV2 hlV2 hown hMI hev x0 x1 x3 xf t1 c0 c1 hlV hlW hTV hX2 hXb
          go_wp2_with (first | (refine wpList_load_mid rfl 45 (.tmp 6) rfl X 0 rfl [.int .i64 5, .int .i64 0, .string ⟨#[]⟩, .slice (some ⟨V.heap.size, 0, none⟩) n n, .int .i64 0, .int .u32 0, .int .u8 0, .int .u64 0, .int .u64 0, .int .u64 0, .int .u64 0, .int .u64 0, .int .u64 0, .int .u64 0, .int .u64 0, .int .u64 0, .int .u64 0, .complex .f64 0 0] _ HRG.out Tryd.underlying45 rfl (by kernel_rfl) ?_) | (at_builtin; refine wpList_append_own _ rfl (.tmp 45) (.tmp 47) 31 rfl w.heap.size 45 i0 _ 18 168 Tryd.underlying31 hi0 hiz his hib rfl (by decide) _ _ _ rfl (HOWN.out.alloc _) ⟨V2.heap.size, 0, none⟩ 1 1 [.int .i64 5, .int .i64 0, .string ⟨#[]⟩, .slice (some ⟨V.heap.size, 0, none⟩) n n, .int .i64 0, .int .u32 0, .int .u8 0, .int .u64 0, .int .u64 0, .int .u64 0, .int .u64 0, .int .u64 0, .int .u64 0, .int .u64 0, .int .u64 0, .int .u64 0, .int .u64 0, .complex .f64 0 0] rfl rfl ?c1 ?c2 ?c3 ?c4 ?c5 ?_))
          case c1 => exact fun j u hu => by rw [addr_add, World.cell?_alloc_new]; simpa using hu
          case c2 => exact fun u hu => by revert u; simp [Value.oneCell']
          case c3 => (unfold maxLen; omega)
          case c4 => omega
          case c5 => (simp; omega)
          intro v' w1 hown' hgrow _
          have hnext := HMI.out.next (e := ⟨5, 0, some ⟨V.heap.size, 0, none⟩, n, n⟩) (by omega) ⟨HE.out.1, HE.out.2.1, HE.out.2.2⟩ (HL.out.alloc _) (by rw [HEV.out]; exact hown') hgrow
          clear hown' hgrow
          go_wp2_with fail
          go_roundw
          case rel => exact ⟨k + 1, L ++ [⟨5, 0, some ⟨V.heap.size, 0, none⟩, n, n⟩], by omega, by go_num, hnext⟩
          case measure => simp [RowKit.intOf]; omega
        · have HE := Lib.hid (show D = codeD (l.getD k (0, 0)) ∧ er = codeE (l.getD k (0, 0)) ∧ 0 = codeN (l.getD k (0, 0)) from by
            have e : l.getD k (0, 0) = (x, y) := Prod.ext HXY.out.1 HXY.out.2
            rw [e]
            exact ⟨HCD.out.1.symm, HCD.out.2.symm, by rw [codeN, if_neg (by rw [HCD.out.1, HCD.out.2]; exact hA)]⟩)
          have hb2 : V.heap[X]? = some (.cells [.int .i64 D, .int .i64 er, .string ⟨#[]⟩, .slice none 0 0, .int .i64 0, .int .u32 0, .int .u8 0, .int .u64 0, .int .u64 0, .int .u64 0, .int .u64 0, .int .u64 0, .int .u64 0, .int .u64 0, .int .u64 0, .int .u64 0, .int .u64 0, .complex .f64 0 0].toArray 45 (0, 0)) := hXb
          have hlV2 : Later wk V := hlW.trans hlV
          have hAA : (D == 5) = false ∨ ((D == 5) = true ∧ (er == 0) = false) := by
            by_cases h5 : D = 5
            · exact .inr ⟨by simpa using h5, by simpa using fun h => hA ⟨h5, h⟩⟩
            · exact .inl (by simpa using h5)
          clear hA
          rcases hAA with hA1 | ⟨hA1, hA2⟩
          · go_upto_region 8 with fail
            have hev : evC ⟨D, er, none, 0, 0⟩ = [.int .i64 D, .int .i64 er, .string ⟨#[]⟩, .slice none 0 0, .int .i64 0, .int .u32 0, .int .u8 0, .int .u64 0, .int .u64 0, .int .u64 0, .int .u64 0, .int .u64 0, .int .u64 0, .int .u64 0, .int .u64 0, .int .u64 0, .int .u64 0, .complex .f64 0 0] := rfl
            have HRG := Lib.hid (rangeAt_block (w := V) (cs := [.int .i64 D, .int .i64 er, .string ⟨#[]⟩, .slice none 0 0, .int .i64 0, .int .u32 0, .int .u8 0, .int .u64 0, .int .u64 0, .int .u64 0, .int .u64 0, .int .u64 0, .int .u64 0, .int .u64 0, .int .u64 0, .int .u64 0, .int .u64 0, .complex .f64 0 0]) hb2)
            have hown := ownsRow_later hMI.2.2.1 hlV2
            obtain ⟨V2, hV2⟩ : ∃ V2, V = V2 := ⟨_, rfl⟩
            try rw [hV2]
            rw [hV2] at HRG hown hlV2
            have HL := Lib.hid hlV2
            have HOWN := Lib.hid hown
            have HMI := Lib.hid hMI
            have hwV := (hMI.2.2.2.trans hlV2).size
            have HEV := Lib.hid hev
            clear hV2 hlV2 hown hMI hev x0 x1 x3 xf t1 c0 c1 hlV hlW hTV hX2 hXb
            go_wp2_with (first | (refine wpList_load_mid rfl 45 (.tmp 6) rfl X 0 rfl [.int .i64 D, .int .i64 er, .string ⟨#[]⟩, .slice none 0 0, .int .i64 0, .int .u32 0, .int .u8 0, .int .u64 0, .int .u64 0, .int .u64 0, .int .u64 0, .int .u64 0, .int .u64 0, .int .u64 0, .int .u64 0, .int .u64 0, .int .u64 0, .complex .f64 0 0] _ HRG.out Tryd.underlying45 rfl (by kernel_rfl) ?_) | (at_builtin; refine wpList_append_own _ rfl (.tmp 45) (.tmp 47) 31 rfl w.heap.size 45 i0 _ 18 168 Tryd.underlying31 hi0 hiz his hib rfl (by decide) _ _ _ rfl (HOWN.out.alloc _) ⟨V2.heap.size, 0, none⟩ 1 1 [.int .i64 D, .int .i64 er, .string ⟨#[]⟩, .slice none 0 0, .int .i64 0, .int .u32 0, .int .u8 0, .int .u64 0, .int .u64 0, .int .u64 0, .int .u64 0, .int .u64 0, .int .u64 0, .int .u64 0, .int .u64 0, .int .u64 0, .int .u64 0, .complex .f64 0 0] rfl rfl ?c1 ?c2 ?c3 ?c4 ?c5 ?_))
            case c1 => exact fun j u hu => by rw [addr_add, World.cell?_alloc_new]; simpa using hu
            case c2 => exact fun u hu => by revert u; simp [Value.oneCell']
            case c3 => (unfold maxLen; omega)
            case c4 => omega
            case c5 => (simp; omega)
            intro v' w1 hown' hgrow _
            have hnext := HMI.out.next (e := ⟨D, er, none, 0, 0⟩) (by omega) ⟨HE.out.1, HE.out.2.1, HE.out.2.2⟩ (HL.out.alloc _) (by rw [HEV.out]; exact hown') hgrow
            clear hown' hgrow
            go_wp2_with fail
            go_roundw
            case rel => exact ⟨k + 1, L ++ [⟨D, er, none, 0, 0⟩], by omega, by go_num, hnext⟩
            case measure => simp [RowKit.intOf]; omega
          · go_upto_region 8 with fail
            have hev : evC ⟨D, er, none, 0, 0⟩ = [.int .i64 D, .int .i64 er, .string ⟨#[]⟩, .slice none 0 0, .int .i64 0, .int .u32 0, .int .u8 0, .int .u64 0, .int .u64 0, .int .u64 0, .int .u64 0, .int .u64 0, .int .u64 0, .int .u64 0, .int .u64 0, .int .u64 0, .int .u64 0, .complex .f64 0 0] := rfl
            have HRG := Lib.hid (rangeAt_block (w := V) (cs := [.int .i64 D, .int .i64 er, .string ⟨#[]⟩, .slice none 0 0, .int .i64 0, .int .u32 0, .int .u8 0, .int .u64 0, .int .u64 0, .int .u64 0, .int .u64 0, .int .u64 0, .int .u64 0, .int .u64 0, .int .u64 0, .int .u64 0, .int .u64 0, .complex .f64 0 0]) hb2)
            have hown := ownsRow_later hMI.2.2.1 hlV2
            obtain ⟨V2, hV2⟩ : ∃ V2, V = V2 := ⟨_, rfl⟩
            try rw [hV2]
            rw [hV2] at HRG hown hlV2
            have HL := Lib.hid hlV2
            have HOWN := Lib.hid hown
            have HMI := Lib.hid hMI
            have hwV := (hMI.2.2.2.trans hlV2).size
            have HEV := Lib.hid hev
            clear hV2 hlV2 hown hMI hev x0 x1 x3 xf t1 c0 c1 hlV hlW hTV hX2 hXb
            go_wp2_with (first | (refine wpList_load_mid rfl 45 (.tmp 6) rfl X 0 rfl [.int .i64 D, .int .i64 er, .string ⟨#[]⟩, .slice none 0 0, .int .i64 0, .int .u32 0, .int .u8 0, .int .u64 0, .int .u64 0, .int .u64 0, .int .u64 0, .int .u64 0, .int .u64 0, .int .u64 0, .int .u64 0, .int .u64 0, .int .u64 0, .complex .f64 0 0] _ HRG.out Tryd.underlying45 rfl (by kernel_rfl) ?_) | (at_builtin; refine wpList_append_own _ rfl (.tmp 45) (.tmp 47) 31 rfl w.heap.size 45 i0 _ 18 168 Tryd.underlying31 hi0 hiz his hib rfl (by decide) _ _ _ rfl (HOWN.out.alloc _) ⟨V2.heap.size, 0, none⟩ 1 1 [.int .i64 D, .int .i64 er, .string ⟨#[]⟩, .slice none 0 0, .int .i64 0, .int .u32 0, .int .u8 0, .int .u64 0, .int .u64 0, .int .u64 0, .int .u64 0, .int .u64 0, .int .u64 0, .int .u64 0, .int .u64 0, .int .u64 0, .int .u64 0, .complex .f64 0 0] rfl rfl ?c1 ?c2 ?c3 ?c4 ?c5 ?_))
            case c1 => exact fun j u hu => by rw [addr_add, World.cell?_alloc_new]; simpa using hu
            case c2 => exact fun u hu => by revert u; simp [Value.oneCell']
            case c3 => (unfold maxLen; omega)
            case c4 => omega
            case c5 => (simp; omega)
            intro v' w1 hown' hgrow _
            have hnext := HMI.out.next (e := ⟨D, er, none, 0, 0⟩) (by omega) ⟨HE.out.1, HE.out.2.1, HE.out.2.2⟩ (HL.out.alloc _) (by rw [HEV.out]; exact hown') hgrow
            clear hown' hgrow
            go_wp2_with fail
            go_roundw
            case rel => exact ⟨k + 1, L ++ [⟨D, er, none, 0, 0⟩], by omega, by go_num, hnext⟩
            case measure => simp [RowKit.intOf]; omega
    · obtain rfl : k = m := by omega
      go_wp2_with fail
      go_ret
      exact ⟨_, _, rfl, hMI⟩
theorem Made_nil (w : World) : Calls Tryd.prog 9 #[.slice none 0 0] w fun e w' => ∃ v L, e = .returned v ∧ MI w w' [] 0 v L := by
  go_enter Tryd.func9, Tryd.ntmps9
  go_wp2_with fail
  refine wp_loop_rounds 1 ?_
  rw [rounds_succ]
  go_wp2_with fail
  go_ret
  exact ⟨_, [], rfl, ⟨rfl, ⟨by simp, fun i e h => by simp at h⟩, World.ownsRow_nil _ _ _ _, by repeat (first | exact Later.refl _ | assumption | apply Later.alloc | apply Later.drew | apply Later.drewN | refine Later.trans ?_ (by assumption))⟩⟩
theorem Made_zero (a : Addr) (cap : Nat) (w : World) : Calls Tryd.prog 9 #[.slice (some a) 0 cap] w fun e w' => ∃ v L, e = .returned v ∧ MI w w' [] 0 v L := by
  go_enter Tryd.func9, Tryd.ntmps9
  go_wp2_with fail
  refine wp_loop_rounds 1 ?_
  rw [rounds_succ]
  go_wp2_with fail
  go_ret
  exact ⟨_, [], rfl, ⟨rfl, ⟨by simp, fun i e h => by simp at h⟩, World.ownsRow_nil _ _ _ _, by repeat (first | exact Later.refl _ | assumption | apply Later.alloc | apply Later.drew | apply Later.drewN | refine Later.trans ?_ (by assumption))⟩⟩
theorem Made_of (v : Value) (l : List (Nat × Nat)) (w : World) (h : Codes w v l) : Calls Tryd.prog 9 #[v] w fun e w' => ∃ v' L, e = .returned v' ∧ MI w w' l (min l.length 60) v' L := by
  rcases h with ⟨rfl, rfl⟩ | ⟨a, cap, rfl, rfl⟩ | ⟨b, o, cap, rfl, hb, hcap, hlen, hc⟩
  · exact Made_nil w
  · exact Made_zero a cap w
  · exact Made_is b o l cap w hb hcap hlen hc (min l.length 60) (by split <;> omega)
end Go.Proofs.YthohoendjipleaaDoor
