/-
  The reference's Is, add and Next of layer 25, walked. Conditions: the counters are words; the parts of the load are from 0 to 2, or the load is 3; at most a million pairs.
-/
import Derived.Test.YthohoendjipleaaGreatDoorRa
import Derived.Test.YthohoendjipleaaGreatDoorPq
namespace Go.Proofs.YthohoendjipleaaGreatDoor
open Go.RowKit Go.Lib
set_option linter.unusedSimpArgs false
set_option linter.unusedVariables false

def W3 : Nat := 4613937818241073152
theorem rpart_w3 (w : World) : Calls Tryz.prog 72 #[.float .f64 4613937818241073152] w fun e w' => e = .returned (.bool false) ∧ Later w w' := by
  have h1 : FloatKind.f64.format.order 4613937818241073152 0 = some .gt := by kernel_rfl
  have h2 : FloatKind.f64.format.order 4613937818241073152 4611686018427387904 = some .gt := by kernel_rfl
  go_enter Tryz.func72, Tryz.ntmps72
  go_wp2_with fail
  go_ret
  exact ⟨rfl, by repeat (first | exact Later.refl _ | assumption | apply Later.alloc | apply Later.drew | apply Later.drewN | refine Later.trans ?_ (by assumption))⟩
/-- a load that is none, or one -/
def LdOK (a b : Nat) (r : Bool) : Prop := (r = true ∧ a ≤ W2 ∧ b ≤ W2) ∨ (r = false ∧ a = 4613937818241073152 ∧ b = 0)
theorem LdOK.both {a b : Nat} {r : Bool} (h : LdOK a b r) : Both a b r := by
  rcases h with ⟨rfl, h1, h2⟩ | ⟨rfl, rfl, rfl⟩
  · exact .inl ⟨rfl, ⟨a, .of h1⟩, ⟨b, .of h2⟩⟩
  · exact .inr (.inl ⟨rfl, .inr (.inr ⟨by kernel_rfl, by kernel_rfl⟩)⟩)
theorem refIs15_is {a b : Nat} {r : Bool} (h : LdOK a b r) (w : World) : Calls Tryz.prog 53 #[.complex .f64 a b] w fun e w' => e = .returned (.bool r) ∧ Later w w' := by
  rcases h with ⟨rfl, h1, h2⟩ | ⟨rfl, rfl, rfl⟩
  · exact refIs_is a b h1 h2 w
  · go_enter Tryz.func53, Tryz.ntmps53
    go_wp2_with fail
    refine (rpart_w3 _).mono ?_
    rintro e w1 ⟨rfl, hl1⟩
    go_wp2_with fail
    go_ret
    exact ⟨rfl, hl1⟩
set_option maxRecDepth 100000 in
theorem refIs25_is (x : Nat → Int) {a b : Nat} {r : Bool} (h : LdOK a b r) (w : World) : Calls Tryz.prog 20 #[.agg #[.int .u64 (x 0), .int .u64 (x 1), .int .u64 (x 2), .int .u64 (x 3), .int .u64 (x 4), .int .u64 (x 5), .int .u64 (x 6), .int .u64 (x 7), .int .u64 (x 8), .int .u64 (x 9), .complex .f64 a b]] w fun e w' => e = .returned (.bool r) ∧ Later w w' := by
  have HI := Lib.hid (fun W => refIs15_is h W)
  clear h
  go_enter Tryz.func20, Tryz.ntmps20
  go_wp2_with fail
  refine (HI.out _).mono ?_
  rintro e w1 ⟨rfl, hl1⟩
  have HL := Lib.hid (((Later.refl w).alloc (.cells #[.int .u64 (x 0), .int .u64 (x 1), .int .u64 (x 2), .int .u64 (x 3), .int .u64 (x 4), .int .u64 (x 5), .int .u64 (x 6), .int .u64 (x 7), .int .u64 (x 8), .int .u64 (x 9), .complex .f64 a b] 27)).trans hl1)
  clear hl1
  go_wp2_with fail
  go_ret
  exact ⟨rfl, HL.out⟩
theorem add25_is (x n : Int) (x0 : 0 ≤ x) (x1 : x ≤ 18446744073709551615) (n0 : 0 ≤ n) (n1 : n ≤ 18446744073709551615) (w : World) :
    Calls Tryz.prog 52 #[.int .u64 x, .int .u64 n] w fun e w' => e = .returned (.int .u64 (mo x n)) ∧ w = w' := by
  by_cases h : x + n ≤ 18446744073709551615
  · have hd : decide (18446744073709551615 - x < n) = false := by simp; omega
    rw [mo, if_pos h]
    go_enter Tryz.func52, Tryz.ntmps52
    go_wp2_with fail
    go_ret
    exact ⟨rfl, rfl⟩
  · have hd : decide (18446744073709551615 - x < n) = true := by simp; omega
    rw [mo, if_neg h]
    clear h
    go_enter Tryz.func52, Tryz.ntmps52
    go_wp2_with fail
    go_ret
    exact ⟨rfl, rfl⟩
theorem xRow_upd (x : Nat → Int) (a b j : Nat) (hj : j < 10) (v : Int) : (xRow x a b).setIfInBounds j (.int .u64 v) = xRow (upd x j v) a b := by
  have : j = 0 ∨ j = 1 ∨ j = 2 ∨ j = 3 ∨ j = 4 ∨ j = 5 ∨ j = 6 ∨ j = 7 ∨ j = 8 ∨ j = 9 := by omega
  rcases this with rfl | rfl | rfl | rfl | rfl | rfl | rfl | rfl | rfl | rfl <;> simp [xRow, upd]
theorem xRow_load (x : Nat → Int) (a b p q : Nat) : (xRow x a b).setIfInBounds 10 (.complex .f64 p q) = xRow x p q := by simp [xRow]
/-- what the reference's Next keeps: the Stat (block S), the event (X), the result (R) -/
def RN (w V : World) (S X R : Nat) (x : Nat → Int) (a b : Nat) (d er : Int) (p : Option Addr) (n c : Nat) : Prop :=
  (Later w V ∧ w.heap.size ≤ S ∧ S < X ∧ X < R ∧ R < V.heap.size) ∧ V.heap[S]? = some (.cells (xRow x a b) 27 (0, 0)) ∧ V.heap[R]? = some (.cells (xRow xZ0 0 0) 27 (0, 0)) ∧
  (V.cell? ⟨X, 0, none⟩ = some (.int .i64 d) ∧ V.cell? ⟨X, 1, none⟩ = some (.int .i64 er) ∧ V.cell? ⟨X, 3, none⟩ = some (.slice p n c)) ∧ okX x
theorem RN.later {w V U : World} {S X R : Nat} {x : Nat → Int} {a b : Nat} {d er : Int} {p : Option Addr} {n c : Nat} (h : RN w V S X R x a b d er p n c) (hl : Later V U) : RN w U S X R x a b d er p n c := by
  obtain ⟨⟨h1, h2, h3, h4, h5⟩, hS, hR, ⟨e0, e1, e3⟩, hx⟩ := h
  have hs := hl.size
  have hX : X < V.heap.size := by omega
  exact ⟨⟨h1.trans hl, h2, h3, h4, by omega⟩, (Below.block hl S (by omega)).trans hS, (Below.block hl R h5).trans hR, ⟨cell_at hl e0 hX, cell_at hl e1 hX, cell_at hl e3 hX⟩, hx⟩
theorem setCell_heap {V : World} {S j : Nat} {v : Value} {cs : Array Value} {t : TypeId} (h : V.heap[S]? = some (.cells cs t (0, 0))) : (V.setCell ⟨S, j, none⟩ v).heap[S]? = some (.cells (cs.setIfInBounds j v) t (0, 0)) := by
  rw [setCell_eq_setRow V S j cs t (0, 0) v h, setRow_heap V S cs _ t (0, 0) h]
theorem setCell_off {V : World} {S j : Nat} {v : Value} {k : Nat} (h : k ≠ S) : (V.setCell ⟨S, j, none⟩ v).heap[k]? = V.heap[k]? := by
  unfold World.setCell
  simp [Array.getElem?_modify, Ne.symm h]
theorem RN.put {w V : World} {S X R : Nat} {x y : Nat → Int} {a b a' b' : Nat} {d er : Int} {p : Option Addr} {n c : Nat} (h : RN w V S X R x a b d er p n c) (j : Nat) (v : Value) (hv : (xRow x a b).setIfInBounds j v = xRow y a' b') (hy : okX y) : RN w (V.setCell ⟨S, j, none⟩ v) S X R y a' b' d er p n c := by
  obtain ⟨⟨h1, h2, h3, h4, h5⟩, hS, hR, ⟨e0, e1, e3⟩, hx⟩ := h
  refine ⟨⟨h1.setCell _ _ h2, h2, h3, h4, by simpa using h5⟩, ?_, (setCell_off (by omega)).trans hR, ⟨?_, ?_, ?_⟩, hy⟩
  · rw [setCell_heap hS, hv]
  · exact (World.cell?_setCell_other V _ _ _ (by intro h; injection h with h; omega)).trans e0
  · exact (World.cell?_setCell_other V _ _ _ (by intro h; injection h with h; omega)).trans e1
  · exact (World.cell?_setCell_other V _ _ _ (by intro h; injection h with h; omega)).trans e3
theorem RN.count {w V : World} {S X R : Nat} {x : Nat → Int} {a b : Nat} {d er : Int} {p : Option Addr} {n c : Nat} (h : RN w V S X R x a b d er p n c) (j : Nat) (hj : j < 10) (m : Int) (m0 : 0 ≤ m) : RN w (V.setCell ⟨S, j, none⟩ (.int .u64 (mo (x j) m))) S X R (cntX x j m) a b d er p n c :=
  h.put j _ (xRow_upd x a b j hj _) (cntX_ok h.2.2.2.2 j m m0)
theorem RN.cell {w V : World} {S X R : Nat} {x : Nat → Int} {a b : Nat} {d er : Int} {p : Option Addr} {n c : Nat} (h : RN w V S X R x a b d er p n c) (j : Nat) (hj : j < 10) : V.cell? ⟨S, j, none⟩ = some (.int .u64 (x j)) ∧ V.frozen? ⟨S, j, none⟩ = false := by
  obtain ⟨⟨u0, u1, u2, u3, u4, u5⟩, u6, u7, u8, u9, u10⟩ := setRow_cellsR h.2.1
  refine ⟨?_, by simp [World.frozen?, h.2.1]⟩
  have : j = 0 ∨ j = 1 ∨ j = 2 ∨ j = 3 ∨ j = 4 ∨ j = 5 ∨ j = 6 ∨ j = 7 ∨ j = 8 ∨ j = 9 := by omega
  rcases this with rfl | rfl | rfl | rfl | rfl | rfl | rfl | rfl | rfl | rfl <;> assumption
theorem RN.cellL {w V : World} {S X R : Nat} {x : Nat → Int} {a b : Nat} {d er : Int} {p : Option Addr} {n c : Nat} (h : RN w V S X R x a b d er p n c) : V.cell? ⟨S, 10, none⟩ = some (.complex .f64 a b) ∧ V.frozen? ⟨S, 10, none⟩ = false := by
  obtain ⟨-, -, -, -, -, u10⟩ := setRow_cellsR h.2.1
  exact ⟨u10, by simp [World.frozen?, h.2.1]⟩
/-- the order of the counters does not matter -/
theorem cnt_comm (x : Nat → Int) (i j : Nat) (h : i ≠ j) (m k : Int) : cntX (cntX x i m) j k = cntX (cntX x j k) i m := by
  funext t
  simp only [cntX, upd]
  by_cases h1 : t = i <;> by_cases h2 : t = j
  · omega
  · subst h1; simp [h2, h]
  · subst h2; simp [h1, Ne.symm h]
  · simp [h1, h2]
theorem err_comm (x : Nat → Int) (er : Int) (j : Nat) (h7 : j ≠ 7) (h8 : j ≠ 8) (k : Int) : cntX (errX x er) j k = errX (cntX x j k) er := by
  by_cases h0 : er = 0
  · subst h0; rw [errX_0, errX_0]; exact cnt_comm x 7 j (Ne.symm h7) 1 k
  · by_cases h1 : er = 10 ∨ er = 11 ∨ er = 12
    · rw [errX_r _ _ h1, errX_r _ _ h1]; exact cnt_comm x 8 j (Ne.symm h8) 1 k
    · rw [errX_o _ _ h0 h1, errX_o _ _ h0 h1]

set_option maxRecDepth 100000 in
set_option maxHeartbeats 16000000 in
theorem refNext25_bad (x : Nat → Int) (hx : okX x) {a b : Nat} {r : Bool} (hr : LdOK a b r) (d er : Int) (p : Option Addr) (n c : Nat) (hd : r = true → ¬ (1 ≤ d ∧ d ≤ 6)) (w : World) :
    Calls Tryz.prog 19 #[.agg #[.int .u64 (x 0), .int .u64 (x 1), .int .u64 (x 2), .int .u64 (x 3), .int .u64 (x 4), .int .u64 (x 5), .int .u64 (x 6), .int .u64 (x 7), .int .u64 (x 8), .int .u64 (x 9), .complex .f64 a b], .agg #[.int .i64 d, .int .i64 er, .string ⟨#[]⟩, .slice p n c, .int .i64 0, .int .u32 0, .int .u8 0, .int .u64 0, .int .u64 0, .int .u64 0, .int .u64 0, .int .u64 0, .int .u64 0, .int .u64 0, .int .u64 0, .int .u64 0, .int .u64 0, .complex .f64 0 0]] w fun e w' => e = .returned (.tuple #[statV xZ0 0 0, .bool false]) ∧ Later w w' := by
  have HI := Lib.hid (fun W => refIs25_is x hr W)
  have hc : (r = false) ∨ (r = true ∧ d < 1) ∨ (r = true ∧ 6 < d) := by
    cases r with
    | false => exact .inl rfl
    | true =>
      have := hd rfl
      by_cases h : d < 1
      · exact .inr (.inl ⟨rfl, h⟩)
      · exact .inr (.inr ⟨rfl, by omega⟩)
  clear hd hr
  go_enter Tryz.func19, Tryz.ntmps19
  go_upto_region 1 with fail

  have HRN := Lib.hid (show RN w (((w.alloc (.cells (xRow x a b) 27)).alloc (.cells #[.int .i64 d, .int .i64 er, .string ⟨#[]⟩, .slice p n c, .int .i64 0, .int .u32 0, .int .u8 0, .int .u64 0, .int .u64 0, .int .u64 0, .int .u64 0, .int .u64 0, .int .u64 0, .int .u64 0, .int .u64 0, .int .u64 0, .int .u64 0, .complex .f64 0 0] 59)).alloc (.cells (xRow xZ0 0 0) 27)) w.heap.size (w.heap.size + 1) (w.heap.size + 1 + 1) x a b d er p n c from by
    have s1 : (w.alloc (.cells (xRow x a b) 27)).heap.size = w.heap.size + 1 := by simp
    have s2 : ((w.alloc (.cells (xRow x a b) 27)).alloc (.cells #[.int .i64 d, .int .i64 er, .string ⟨#[]⟩, .slice p n c, .int .i64 0, .int .u32 0, .int .u8 0, .int .u64 0, .int .u64 0, .int .u64 0, .int .u64 0, .int .u64 0, .int .u64 0, .int .u64 0, .int .u64 0, .int .u64 0, .int .u64 0, .complex .f64 0 0] 59)).heap.size = w.heap.size + 1 + 1 := by simp
    have h1 := (MapKept.heap_alloc w (.cells (xRow x a b) 27)).1
    have h2 := (MapKept.heap_alloc (w.alloc (.cells (xRow x a b) 27)) (.cells #[.int .i64 d, .int .i64 er, .string ⟨#[]⟩, .slice p n c, .int .i64 0, .int .u32 0, .int .u8 0, .int .u64 0, .int .u64 0, .int .u64 0, .int .u64 0, .int .u64 0, .int .u64 0, .int .u64 0, .int .u64 0, .int .u64 0, .int .u64 0, .complex .f64 0 0] 59)).1
    have h3 := (MapKept.heap_alloc ((w.alloc (.cells (xRow x a b) 27)).alloc (.cells #[.int .i64 d, .int .i64 er, .string ⟨#[]⟩, .slice p n c, .int .i64 0, .int .u32 0, .int .u8 0, .int .u64 0, .int .u64 0, .int .u64 0, .int .u64 0, .int .u64 0, .int .u64 0, .int .u64 0, .int .u64 0, .int .u64 0, .int .u64 0, .complex .f64 0 0] 59)) (.cells (xRow xZ0 0 0) 27)).1
    rw [s1] at h2
    rw [s2] at h3
    have h2' := (Below.heap_alloc ((w.alloc (.cells (xRow x a b) 27)).alloc (.cells #[.int .i64 d, .int .i64 er, .string ⟨#[]⟩, .slice p n c, .int .i64 0, .int .u32 0, .int .u8 0, .int .u64 0, .int .u64 0, .int .u64 0, .int .u64 0, .int .u64 0, .int .u64 0, .int .u64 0, .int .u64 0, .int .u64 0, .int .u64 0, .complex .f64 0 0] 59)) (.cells (xRow xZ0 0 0) 27) (w.heap.size + 1) (by omega)).trans h2
    refine ⟨⟨(((Later.refl w).alloc _).alloc _).alloc _, Nat.le_refl _, by omega, by omega, by simp⟩, ?_, h3, ⟨?_, ?_, ?_⟩, hx⟩
    · exact (Below.heap_alloc _ _ _ (by omega)).trans ((Below.heap_alloc _ _ _ (by omega)).trans h1)
    · rw [Lib.cell_of_heap h2']; rfl
    · rw [Lib.cell_of_heap h2']; rfl
    · rw [Lib.cell_of_heap h2']; rfl)
  obtain ⟨W, hW⟩ : ∃ W, ((w.alloc (.cells #[.int .u64 (x 0), .int .u64 (x 1), .int .u64 (x 2), .int .u64 (x 3), .int .u64 (x 4), .int .u64 (x 5), .int .u64 (x 6), .int .u64 (x 7), .int .u64 (x 8), .int .u64 (x 9), .complex .f64 a b] 27)).alloc (.cells #[.int .i64 d, .int .i64 er, .string ⟨#[]⟩, .slice p n c, .int .i64 0, .int .u32 0, .int .u8 0, .int .u64 0, .int .u64 0, .int .u64 0, .int .u64 0, .int .u64 0, .int .u64 0, .int .u64 0, .int .u64 0, .int .u64 0, .int .u64 0, .complex .f64 0 0] 59)).alloc (.cells #[.int .u64 0, .int .u64 0, .int .u64 0, .int .u64 0, .int .u64 0, .int .u64 0, .int .u64 0, .int .u64 0, .int .u64 0, .int .u64 0, .complex .f64 0 0] 27) = W := ⟨_, rfl⟩
  have hW2 : ((w.alloc (.cells (xRow x a b) 27)).alloc (.cells #[.int .i64 d, .int .i64 er, .string ⟨#[]⟩, .slice p n c, .int .i64 0, .int .u32 0, .int .u8 0, .int .u64 0, .int .u64 0, .int .u64 0, .int .u64 0, .int .u64 0, .int .u64 0, .int .u64 0, .int .u64 0, .int .u64 0, .int .u64 0, .complex .f64 0 0] 59)).alloc (.cells (xRow xZ0 0 0) 27) = W := hW
  obtain ⟨R, hR⟩ : ∃ R, w.heap.size + 1 + 1 = R := ⟨_, rfl⟩
  obtain ⟨X, hX⟩ : ∃ X, w.heap.size + 1 = X := ⟨_, rfl⟩
  obtain ⟨S, hS⟩ : ∃ S, w.heap.size = S := ⟨_, rfl⟩
  rw [hW2, hR, hX, hS] at HRN
  rw [hW]
  try rw [hR]
  try rw [hX]
  try rw [hS]
  clear hW hW2 hR hX hS hx
  obtain ⟨⟨c0, c1, c2, c3, c4, c5⟩, c6, c7, c8, c9, c10⟩ := setRow_cellsR HRN.out.2.1
  obtain ⟨x0, x1, x3⟩ := HRN.out.2.2.2.1
  go_wp2_with fail
  refine (HI.out _).mono ?_
  rintro e w2 ⟨rfl, hl2⟩
  have hRN2 := HRN.out.later hl2
  have HRN2 := Lib.hid hRN2
  clear hl2 hRN2 c0 c1 c2 c3 c4 c5 c6 c7 c8 c9 c10 x0 x1 x3 HRN HI
  rcases hc with rfl | ⟨rfl, hd⟩ | ⟨rfl, hd⟩
  · have HRR := Lib.hid HRN2.out.2.2.1
    have HEND := Lib.hid (EndR.mk (x := xZ0) (a := 0) (b := 0) HRN2.out.1.1 (Nat.le_trans HRN2.out.1.2.1 (by have := HRN2.out.1; omega)) HRN2.out.2.2.1)
    go_wp2_with (first | (refine wpList_store_rowTo rfl 27 (.tmp 4) (.tmp 21) rfl rfl R (xRow xZ0 0 0) rfl rfl 27 (xRow xZ0 0 0) HRR.out (by kernel_rfl) rfl (by kernel_rfl) ?_))
    have hend := HEND.out
    generalize w2.setRow R (xRow xZ0 0 0) = w8 at hend ⊢
    obtain ⟨⟨u0, u1, u2, u3, u4, u5⟩, u6, u7, u8, u9, u10⟩ := setRow_cellsR hend.2
    exact bodyPost_ret (v := .tuple #[statV xZ0 0 0, .bool false]) (by simp [results, Tryz.results19, go_sem, statV, u0, u1, u2, u3, u4, u5, u6, u7, u8, u9, u10]) rfl ⟨rfl, hend.1⟩
  · have hd1 : decide (d < 1) = true := by simp; omega
    clear hd

    have HRR := Lib.hid HRN2.out.2.2.1
    have HEND := Lib.hid (EndR.mk (x := xZ0) (a := 0) (b := 0) HRN2.out.1.1 (Nat.le_trans HRN2.out.1.2.1 (by have := HRN2.out.1; omega)) HRN2.out.2.2.1)
    go_wp2_with (first | (refine wpList_store_rowTo rfl 27 (.tmp 4) (.tmp 21) rfl rfl R (xRow xZ0 0 0) rfl rfl 27 (xRow xZ0 0 0) HRR.out (by kernel_rfl) rfl (by kernel_rfl) ?_))
    have hend := HEND.out
    generalize w2.setRow R (xRow xZ0 0 0) = w8 at hend ⊢
    obtain ⟨⟨u0, u1, u2, u3, u4, u5⟩, u6, u7, u8, u9, u10⟩ := setRow_cellsR hend.2
    exact bodyPost_ret (v := .tuple #[statV xZ0 0 0, .bool false]) (by simp [results, Tryz.results19, go_sem, statV, u0, u1, u2, u3, u4, u5, u6, u7, u8, u9, u10]) rfl ⟨rfl, hend.1⟩
  · have hd1 : decide (d < 1) = false := by simp; omega
    have hd2 : decide (6 < d) = true := by simp; omega
    clear hd

    have HRR := Lib.hid HRN2.out.2.2.1
    have HEND := Lib.hid (EndR.mk (x := xZ0) (a := 0) (b := 0) HRN2.out.1.1 (Nat.le_trans HRN2.out.1.2.1 (by have := HRN2.out.1; omega)) HRN2.out.2.2.1)
    go_wp2_with (first | (refine wpList_store_rowTo rfl 27 (.tmp 4) (.tmp 21) rfl rfl R (xRow xZ0 0 0) rfl rfl 27 (xRow xZ0 0 0) HRR.out (by kernel_rfl) rfl (by kernel_rfl) ?_))
    have hend := HEND.out
    generalize w2.setRow R (xRow xZ0 0 0) = w8 at hend ⊢
    obtain ⟨⟨u0, u1, u2, u3, u4, u5⟩, u6, u7, u8, u9, u10⟩ := setRow_cellsR hend.2
    exact bodyPost_ret (v := .tuple #[statV xZ0 0 0, .bool false]) (by simp [results, Tryz.results19, go_sem, statV, u0, u1, u2, u3, u4, u5, u6, u7, u8, u9, u10]) rfl ⟨rfl, hend.1⟩

set_option maxRecDepth 100000 in
set_option maxHeartbeats 32000000 in
theorem refNext25_is (x : Nat → Int) (hx : okX x) (a b : Nat) (ha : a ≤ W2) (hb : b ≤ W2) (d er : Int) (p : Option Addr) (n c : Nat) (hd : 1 ≤ d ∧ d ≤ 6) (hn : n ≤ 1000000) (w : World) :
    Calls Tryz.prog 19 #[.agg #[.int .u64 (x 0), .int .u64 (x 1), .int .u64 (x 2), .int .u64 (x 3), .int .u64 (x 4), .int .u64 (x 5), .int .u64 (x 6), .int .u64 (x 7), .int .u64 (x 8), .int .u64 (x 9), .complex .f64 a b], .agg #[.int .i64 d, .int .i64 er, .string ⟨#[]⟩, .slice p n c, .int .i64 0, .int .u32 0, .int .u8 0, .int .u64 0, .int .u64 0, .int .u64 0, .int .u64 0, .int .u64 0, .int .u64 0, .int .u64 0, .int .u64 0, .int .u64 0, .int .u64 0, .complex .f64 0 0]] w fun e w' => e = .returned (.tuple #[statV (evX x ⟨d, er, p, n, c⟩) (nextR a d) (nextI b d), .bool true]) ∧ Later w w' := by
  have HI := Lib.hid (fun W => refIs25_is x (a := a) (b := b) (r := true) (.inl ⟨rfl, ha, hb⟩) W)
  have HN := Lib.hid (fun W => refNext_is a b d ha hb W)
  have hst := run_store_complex Tryz.prog
  obtain ⟨a2, ha2⟩ : ∃ q, nextR a d = q := ⟨_, rfl⟩
  obtain ⟨b2, hb2⟩ : ∃ q, nextI b d = q := ⟨_, rfl⟩
  obtain ⟨y, hy⟩ : ∃ y, evX x ⟨d, er, p, n, c⟩ = y := ⟨_, rfl⟩
  rw [ha2, hb2] at HN ⊢
  rw [hy]
  have HY := Lib.hid hy
  clear ha hb ha2 hb2 hy
  go_enter Tryz.func19, Tryz.ntmps19
  go_upto_region 1 with fail

  have HRN := Lib.hid (show RN w (((w.alloc (.cells (xRow x a b) 27)).alloc (.cells #[.int .i64 d, .int .i64 er, .string ⟨#[]⟩, .slice p n c, .int .i64 0, .int .u32 0, .int .u8 0, .int .u64 0, .int .u64 0, .int .u64 0, .int .u64 0, .int .u64 0, .int .u64 0, .int .u64 0, .int .u64 0, .int .u64 0, .int .u64 0, .complex .f64 0 0] 59)).alloc (.cells (xRow xZ0 0 0) 27)) w.heap.size (w.heap.size + 1) (w.heap.size + 1 + 1) x a b d er p n c from by
    have s1 : (w.alloc (.cells (xRow x a b) 27)).heap.size = w.heap.size + 1 := by simp
    have s2 : ((w.alloc (.cells (xRow x a b) 27)).alloc (.cells #[.int .i64 d, .int .i64 er, .string ⟨#[]⟩, .slice p n c, .int .i64 0, .int .u32 0, .int .u8 0, .int .u64 0, .int .u64 0, .int .u64 0, .int .u64 0, .int .u64 0, .int .u64 0, .int .u64 0, .int .u64 0, .int .u64 0, .int .u64 0, .complex .f64 0 0] 59)).heap.size = w.heap.size + 1 + 1 := by simp
    have h1 := (MapKept.heap_alloc w (.cells (xRow x a b) 27)).1
    have h2 := (MapKept.heap_alloc (w.alloc (.cells (xRow x a b) 27)) (.cells #[.int .i64 d, .int .i64 er, .string ⟨#[]⟩, .slice p n c, .int .i64 0, .int .u32 0, .int .u8 0, .int .u64 0, .int .u64 0, .int .u64 0, .int .u64 0, .int .u64 0, .int .u64 0, .int .u64 0, .int .u64 0, .int .u64 0, .int .u64 0, .complex .f64 0 0] 59)).1
    have h3 := (MapKept.heap_alloc ((w.alloc (.cells (xRow x a b) 27)).alloc (.cells #[.int .i64 d, .int .i64 er, .string ⟨#[]⟩, .slice p n c, .int .i64 0, .int .u32 0, .int .u8 0, .int .u64 0, .int .u64 0, .int .u64 0, .int .u64 0, .int .u64 0, .int .u64 0, .int .u64 0, .int .u64 0, .int .u64 0, .int .u64 0, .complex .f64 0 0] 59)) (.cells (xRow xZ0 0 0) 27)).1
    rw [s1] at h2
    rw [s2] at h3
    have h2' := (Below.heap_alloc ((w.alloc (.cells (xRow x a b) 27)).alloc (.cells #[.int .i64 d, .int .i64 er, .string ⟨#[]⟩, .slice p n c, .int .i64 0, .int .u32 0, .int .u8 0, .int .u64 0, .int .u64 0, .int .u64 0, .int .u64 0, .int .u64 0, .int .u64 0, .int .u64 0, .int .u64 0, .int .u64 0, .int .u64 0, .complex .f64 0 0] 59)) (.cells (xRow xZ0 0 0) 27) (w.heap.size + 1) (by omega)).trans h2
    refine ⟨⟨(((Later.refl w).alloc _).alloc _).alloc _, Nat.le_refl _, by omega, by omega, by simp⟩, ?_, h3, ⟨?_, ?_, ?_⟩, hx⟩
    · exact (Below.heap_alloc _ _ _ (by omega)).trans ((Below.heap_alloc _ _ _ (by omega)).trans h1)
    · rw [Lib.cell_of_heap h2']; rfl
    · rw [Lib.cell_of_heap h2']; rfl
    · rw [Lib.cell_of_heap h2']; rfl)
  obtain ⟨W, hW⟩ : ∃ W, ((w.alloc (.cells #[.int .u64 (x 0), .int .u64 (x 1), .int .u64 (x 2), .int .u64 (x 3), .int .u64 (x 4), .int .u64 (x 5), .int .u64 (x 6), .int .u64 (x 7), .int .u64 (x 8), .int .u64 (x 9), .complex .f64 a b] 27)).alloc (.cells #[.int .i64 d, .int .i64 er, .string ⟨#[]⟩, .slice p n c, .int .i64 0, .int .u32 0, .int .u8 0, .int .u64 0, .int .u64 0, .int .u64 0, .int .u64 0, .int .u64 0, .int .u64 0, .int .u64 0, .int .u64 0, .int .u64 0, .int .u64 0, .complex .f64 0 0] 59)).alloc (.cells #[.int .u64 0, .int .u64 0, .int .u64 0, .int .u64 0, .int .u64 0, .int .u64 0, .int .u64 0, .int .u64 0, .int .u64 0, .int .u64 0, .complex .f64 0 0] 27) = W := ⟨_, rfl⟩
  have hW2 : ((w.alloc (.cells (xRow x a b) 27)).alloc (.cells #[.int .i64 d, .int .i64 er, .string ⟨#[]⟩, .slice p n c, .int .i64 0, .int .u32 0, .int .u8 0, .int .u64 0, .int .u64 0, .int .u64 0, .int .u64 0, .int .u64 0, .int .u64 0, .int .u64 0, .int .u64 0, .int .u64 0, .int .u64 0, .complex .f64 0 0] 59)).alloc (.cells (xRow xZ0 0 0) 27) = W := hW
  obtain ⟨R, hR⟩ : ∃ R, w.heap.size + 1 + 1 = R := ⟨_, rfl⟩
  obtain ⟨X, hX⟩ : ∃ X, w.heap.size + 1 = X := ⟨_, rfl⟩
  obtain ⟨S, hS⟩ : ∃ S, w.heap.size = S := ⟨_, rfl⟩
  rw [hW2, hR, hX, hS] at HRN
  rw [hW]
  try rw [hR]
  try rw [hX]
  try rw [hS]
  clear hW hW2 hR hX hS hx
  obtain ⟨⟨c0, c1, c2, c3, c4, c5⟩, c6, c7, c8, c9, c10⟩ := setRow_cellsR HRN.out.2.1
  obtain ⟨x0, x1, x3⟩ := HRN.out.2.2.2.1
  have hd1 : decide (d < 1) = false := by simp; omega
  have hd2 : decide (6 < d) = false := by simp; omega
  go_wp2_with fail
  refine (HI.out _).mono ?_
  rintro e w2 ⟨rfl, hl2⟩
  have hRN2 := HRN.out.later hl2
  have HRN2 := Lib.hid hRN2
  obtain ⟨x0, x1, x3⟩ := hRN2.2.2.2.1
  have cl := hRN2.cellL.1
  have cf := hRN2.cellL.2
  clear hl2 hRN2 c0 c1 c2 c3 c4 c5 c6 c7 c8 c9 c10 HRN HI
  go_wp2_with fail
  refine (HN.out _).mono ?_
  rintro e w3 ⟨rfl, hl3⟩
  have hRN3 := HRN2.out.later hl3
  obtain ⟨x0, x1, x3⟩ := hRN3.2.2.2.1
  have cl := hRN3.cellL.1
  have cf := hRN3.cellL.2
  have HRN4 := Lib.hid (hRN3.put 10 (.complex .f64 a2 b2) (xRow_load x a b a2 b2) hRN3.2.2.2.2)
  clear hl3 hRN3 HRN2 HN
  go_upto_region 5 with fail
  obtain ⟨w4, hw4⟩ : ∃ w4, w3.setCell ⟨S, 10, none⟩ (.complex .f64 a2 b2) = w4 := ⟨_, rfl⟩
  rw [hw4] at HRN4 ⊢
  clear hw4 x0 x1 x3 cl cf hst hd1 hd2
  have hd1 : 1 ≤ d := hd.1
  have hd2 : d ≤ 6 := hd.2
  have hdc : d = 6 ∨ d = 1 ∨ d = 2 ∨ d = 3 ∨ d = 4 ∨ d = 5 := by omega
  clear hd hd1 hd2
  rcases hdc with rfl | hdc
  · obtain ⟨x0, x1, x3⟩ := HRN4.out.2.2.2.1

    have HRG := Lib.hid (rangeAt_block (w := w4) (cs := (xRow x a2 b2).toList) (show w4.heap[S]? = some (.cells ((xRow x a2 b2).toList).toArray 27 (0, 0)) from HRN4.out.2.1))
    have HRR := Lib.hid HRN4.out.2.2.1
    have HEND := Lib.hid (EndR.mk (x := x) (a := a2) (b := b2) HRN4.out.1.1 (Nat.le_trans HRN4.out.1.2.1 (by have := HRN4.out.1; omega)) HRN4.out.2.2.1)
    go_wp2_with (first | (refine wpList_load_mid rfl 27 (.tmp 2) rfl S 0 rfl (xRow x a2 b2).toList _ HRG.out Tryz.underlying27 rfl (by kernel_rfl) ?_) | (refine wpList_store_rowTo rfl 27 (.tmp 4) (.tmp 98) rfl rfl R (xRow x a2 b2) rfl rfl 27 (xRow xZ0 0 0) HRR.out (by kernel_rfl) rfl (by kernel_rfl) ?_))
    have hend := HEND.out
    generalize w4.setRow R (xRow x a2 b2) = w8 at hend ⊢
    obtain ⟨⟨u0, u1, u2, u3, u4, u5⟩, u6, u7, u8, u9, u10⟩ := setRow_cellsR hend.2
    exact bodyPost_ret (v := .tuple #[statV x a2 b2, .bool true]) (by simp [results, Tryz.results19, go_sem, statV, u0, u1, u2, u3, u4, u5, u6, u7, u8, u9, u10]) rfl ⟨by rw [← HY.out]; rfl, hend.1⟩
  · have hlt : decide (d < 6) = true := by
      rcases hdc with rfl | rfl | rfl | rfl | rfl <;> decide
    obtain ⟨x0, x1, x3⟩ := HRN4.out.2.2.2.1
    go_upto_if 39 with fail
    go_cut [] from 35 to 43 (fun V => RN w V S X R (if er = 0 then cntX x 7 1 else x) a2 b2 d er p n c)
    case first =>
      by_cases h0 : er = 0
      · have e0 : (er == 0) = true := by rw [h0]; rfl
        have hc7 := HRN4.out.cell 7 (by omega)
        have hx7 := HRN4.out.2.2.2.2 7
        have HN5 := Lib.hid (HRN4.out.count 7 (by omega) 1 (by omega))
        have HA := Lib.hid (fun W => add25_is (x 7) 1 hx7.1 hx7.2 (by omega) (by omega) W)
        have hcc := hc7.1
        have hcf := hc7.2
        have H0 := Lib.hid h0
        clear hc7 hx7 h0
        go_wp2_with fail
        refine (HA.out _).mono ?_
        rintro e w5 ⟨rfl, rfl⟩
        go_wp2_with fail
        go_meet
        case rel => (rw [if_pos H0.out]; exact HN5.out)
      · have e0 : (er == 0) = false := by rw [beq_eq_false_iff_ne]; exact h0
        have H0 := Lib.hid h0
        clear h0
        go_wp2_with fail
        go_meet
        case rel => (rw [if_neg H0.out]; exact HRN4.out)
    case rest =>
      have HN5 := Lib.hid hcut
      obtain ⟨x0, x1, x3⟩ := HN5.out.2.2.2.1
      clear hcut HRN4
      have hr : ∃ r, r = decide (er = 10 ∨ er = 11 ∨ er = 12) := ⟨_, rfl⟩
      obtain ⟨r, hr⟩ := hr
      have HR := Lib.hid hr
      go_upto_region 8 with fail
      go_cut [53] from 44 to 53 (fun s53 V => s53 = .bool r ∧ RN w V S X R (if er = 0 then cntX x 7 1 else x) a2 b2 d er p n c)
      case first =>
        by_cases h10 : 10 ≤ er
        · have e1 : decide (10 ≤ er) = true := by simp; omega
          have e2 : decide (er ≤ 12) = r := by
            rw [hr]
            by_cases h12 : er ≤ 12
            · rw [decide_eq_true h12, decide_eq_true (by omega)]
            · rw [decide_eq_false h12, decide_eq_false (by omega)]
          clear h10 hr
          go_wp2_with fail
          go_meet
          case rel => exact ⟨rfl, HN5.out⟩
        · have e1 : decide (10 ≤ er) = false := by simp; omega
          have e2 : r = false := by rw [hr]; exact decide_eq_false (by omega)
          subst e2
          clear h10 hr
          go_wp2_with fail
          go_meet
          case rel => exact ⟨rfl, HN5.out⟩
      case rest =>
      obtain ⟨rfl, hcut⟩ := hcut
      have HN5 := Lib.hid hcut
      obtain ⟨x0, x1, x3⟩ := HN5.out.2.2.2.1
      clear hcut hr
      go_upto_if 53 with fail
      go_cut [] from 53 to 57 (fun V => RN w V S X R (errX x er) a2 b2 d er p n c)
      case first =>
        cases r with
        | true =>
          have h1 : er = 10 ∨ er = 11 ∨ er = 12 := by have := HR.out; simpa using this.symm
          have e0 : ¬ er = 0 := by omega
          have hx5 : (if er = 0 then cntX x 7 1 else x) = x := if_neg e0
          rw [hx5] at HN5
          have hx6 := errX_r x er h1
          have hc7 := HN5.out.cell 8 (by omega)
          have hx7 := HN5.out.2.2.2.2 8
          have HN6 := Lib.hid (HN5.out.count 8 (by omega) 1 (by omega))
          have HA := Lib.hid (fun W => add25_is (x 8) 1 hx7.1 hx7.2 (by omega) (by omega) W)
          have hcc := hc7.1
          have hcf := hc7.2
          have H6 := Lib.hid hx6
          clear hc7 hx7 h1 e0 hx5 hx6 HR
          go_wp2_with fail
          refine (HA.out _).mono ?_
          rintro e w5 ⟨rfl, rfl⟩
          go_wp2_with fail
          go_meet
          case rel => (rw [H6.out]; exact HN6.out)
        | false =>
          have h1 : ¬ (er = 10 ∨ er = 11 ∨ er = 12) := by have := HR.out; simpa using this.symm
          have hx5 : (if er = 0 then cntX x 7 1 else x) = errX x er := by
            by_cases h0 : er = 0
            · subst h0; rw [if_pos rfl, errX_0]
            · rw [if_neg h0, errX_o x er h0 h1]
          rw [hx5] at HN5
          clear h1 hx5 HR
          go_wp2_with fail
          go_meet
          case rel => exact HN5.out
      case rest =>
        have HN6 := Lib.hid hcut
        obtain ⟨x0, x1, x3⟩ := HN6.out.2.2.2.1
        clear hcut HN5 hlt
        obtain ⟨z, hz⟩ : ∃ z, errX x er = z := ⟨_, rfl⟩
        rw [hz] at HN6
        have HZ := Lib.hid hz
        clear hz
        rcases hdc with rfl | rfl | rfl | rfl | rfl
        · have hcj := HN6.out.cell 2 (by omega)
          have hxj := HN6.out.2.2.2.2 2
          have HN7 := Lib.hid (HN6.out.count 2 (by omega) 1 (by omega))
          have HA := Lib.hid (fun W => add25_is (z 2) 1 hxj.1 hxj.2 (by omega) (by omega) W)
          have hcc := hcj.1
          have hcf := hcj.2
          clear hcj hxj
          go_wp2_with fail
          refine (HA.out _).mono ?_
          rintro e w5 ⟨rfl, rfl⟩
          go_upto_region 22 with fail
          obtain ⟨w7, hw7⟩ : ∃ w7, World.setCell wc ⟨S, 2, none⟩ (.int .u64 (mo (z 2) 1)) = w7 := ⟨_, rfl⟩
          rw [hw7] at HN7 ⊢
          clear hw7 hcc hcf x0 x1 x3

          have HRG := Lib.hid (rangeAt_block (w := w7) (cs := (xRow (cntX z 2 1) a2 b2).toList) (show w7.heap[S]? = some (.cells ((xRow (cntX z 2 1) a2 b2).toList).toArray 27 (0, 0)) from HN7.out.2.1))
          have HRR := Lib.hid HN7.out.2.2.1
          have HEND := Lib.hid (EndR.mk (x := (cntX z 2 1)) (a := a2) (b := b2) HN7.out.1.1 (Nat.le_trans HN7.out.1.2.1 (by have := HN7.out.1; omega)) HN7.out.2.2.1)
          go_wp2_with (first | (refine wpList_load_mid rfl 27 (.tmp 2) rfl S 0 rfl (xRow (cntX z 2 1) a2 b2).toList _ HRG.out Tryz.underlying27 rfl (by kernel_rfl) ?_) | (refine wpList_store_rowTo rfl 27 (.tmp 4) (.tmp 98) rfl rfl R (xRow (cntX z 2 1) a2 b2) rfl rfl 27 (xRow xZ0 0 0) HRR.out (by kernel_rfl) rfl (by kernel_rfl) ?_))
          have hend := HEND.out
          generalize w7.setRow R (xRow (cntX z 2 1) a2 b2) = w8 at hend ⊢
          obtain ⟨⟨u0, u1, u2, u3, u4, u5⟩, u6, u7, u8, u9, u10⟩ := setRow_cellsR hend.2
          exact bodyPost_ret (v := .tuple #[statV (cntX z 2 1) a2 b2, .bool true]) (by simp [results, Tryz.results19, go_sem, statV, u0, u1, u2, u3, u4, u5, u6, u7, u8, u9, u10]) rfl ⟨by rw [← HY.out, ← HZ.out, err_comm x er 2 (by omega) (by omega) 1]; rfl, hend.1⟩
        · have hcj := HN6.out.cell 3 (by omega)
          have hxj := HN6.out.2.2.2.2 3
          have HN7 := Lib.hid (HN6.out.count 3 (by omega) 1 (by omega))
          have HA := Lib.hid (fun W => add25_is (z 3) 1 hxj.1 hxj.2 (by omega) (by omega) W)
          have hcc := hcj.1
          have hcf := hcj.2
          clear hcj hxj
          go_wp2_with fail
          refine (HA.out _).mono ?_
          rintro e w5 ⟨rfl, rfl⟩
          go_upto_region 22 with fail
          obtain ⟨w7, hw7⟩ : ∃ w7, World.setCell wc ⟨S, 3, none⟩ (.int .u64 (mo (z 3) 1)) = w7 := ⟨_, rfl⟩
          rw [hw7] at HN7 ⊢
          clear hw7 hcc hcf x0 x1 x3

          have HRG := Lib.hid (rangeAt_block (w := w7) (cs := (xRow (cntX z 3 1) a2 b2).toList) (show w7.heap[S]? = some (.cells ((xRow (cntX z 3 1) a2 b2).toList).toArray 27 (0, 0)) from HN7.out.2.1))
          have HRR := Lib.hid HN7.out.2.2.1
          have HEND := Lib.hid (EndR.mk (x := (cntX z 3 1)) (a := a2) (b := b2) HN7.out.1.1 (Nat.le_trans HN7.out.1.2.1 (by have := HN7.out.1; omega)) HN7.out.2.2.1)
          go_wp2_with (first | (refine wpList_load_mid rfl 27 (.tmp 2) rfl S 0 rfl (xRow (cntX z 3 1) a2 b2).toList _ HRG.out Tryz.underlying27 rfl (by kernel_rfl) ?_) | (refine wpList_store_rowTo rfl 27 (.tmp 4) (.tmp 98) rfl rfl R (xRow (cntX z 3 1) a2 b2) rfl rfl 27 (xRow xZ0 0 0) HRR.out (by kernel_rfl) rfl (by kernel_rfl) ?_))
          have hend := HEND.out
          generalize w7.setRow R (xRow (cntX z 3 1) a2 b2) = w8 at hend ⊢
          obtain ⟨⟨u0, u1, u2, u3, u4, u5⟩, u6, u7, u8, u9, u10⟩ := setRow_cellsR hend.2
          exact bodyPost_ret (v := .tuple #[statV (cntX z 3 1) a2 b2, .bool true]) (by simp [results, Tryz.results19, go_sem, statV, u0, u1, u2, u3, u4, u5, u6, u7, u8, u9, u10]) rfl ⟨by rw [← HY.out, ← HZ.out, err_comm x er 3 (by omega) (by omega) 1]; rfl, hend.1⟩
        · have hcj := HN6.out.cell 4 (by omega)
          have hxj := HN6.out.2.2.2.2 4
          have HN7 := Lib.hid (HN6.out.count 4 (by omega) 1 (by omega))
          have HA := Lib.hid (fun W => add25_is (z 4) 1 hxj.1 hxj.2 (by omega) (by omega) W)
          have hcc := hcj.1
          have hcf := hcj.2
          clear hcj hxj
          go_wp2_with fail
          refine (HA.out _).mono ?_
          rintro e w5 ⟨rfl, rfl⟩
          go_upto_region 22 with fail
          obtain ⟨w7, hw7⟩ : ∃ w7, World.setCell wc ⟨S, 4, none⟩ (.int .u64 (mo (z 4) 1)) = w7 := ⟨_, rfl⟩
          rw [hw7] at HN7 ⊢
          clear hw7 hcc hcf x0 x1 x3

          have HRG := Lib.hid (rangeAt_block (w := w7) (cs := (xRow (cntX z 4 1) a2 b2).toList) (show w7.heap[S]? = some (.cells ((xRow (cntX z 4 1) a2 b2).toList).toArray 27 (0, 0)) from HN7.out.2.1))
          have HRR := Lib.hid HN7.out.2.2.1
          have HEND := Lib.hid (EndR.mk (x := (cntX z 4 1)) (a := a2) (b := b2) HN7.out.1.1 (Nat.le_trans HN7.out.1.2.1 (by have := HN7.out.1; omega)) HN7.out.2.2.1)
          go_wp2_with (first | (refine wpList_load_mid rfl 27 (.tmp 2) rfl S 0 rfl (xRow (cntX z 4 1) a2 b2).toList _ HRG.out Tryz.underlying27 rfl (by kernel_rfl) ?_) | (refine wpList_store_rowTo rfl 27 (.tmp 4) (.tmp 98) rfl rfl R (xRow (cntX z 4 1) a2 b2) rfl rfl 27 (xRow xZ0 0 0) HRR.out (by kernel_rfl) rfl (by kernel_rfl) ?_))
          have hend := HEND.out
          generalize w7.setRow R (xRow (cntX z 4 1) a2 b2) = w8 at hend ⊢
          obtain ⟨⟨u0, u1, u2, u3, u4, u5⟩, u6, u7, u8, u9, u10⟩ := setRow_cellsR hend.2
          exact bodyPost_ret (v := .tuple #[statV (cntX z 4 1) a2 b2, .bool true]) (by simp [results, Tryz.results19, go_sem, statV, u0, u1, u2, u3, u4, u5, u6, u7, u8, u9, u10]) rfl ⟨by rw [← HY.out, ← HZ.out, err_comm x er 4 (by omega) (by omega) 1]; rfl, hend.1⟩
        · have hcj := HN6.out.cell 5 (by omega)
          have hxj := HN6.out.2.2.2.2 5
          have HN7 := Lib.hid (HN6.out.count 5 (by omega) 1 (by omega))
          have HA := Lib.hid (fun W => add25_is (z 5) 1 hxj.1 hxj.2 (by omega) (by omega) W)
          have hcc := hcj.1
          have hcf := hcj.2
          clear hcj hxj
          go_wp2_with fail
          refine (HA.out _).mono ?_
          rintro e w5 ⟨rfl, rfl⟩
          go_upto_region 22 with fail
          obtain ⟨w7, hw7⟩ : ∃ w7, World.setCell wc ⟨S, 5, none⟩ (.int .u64 (mo (z 5) 1)) = w7 := ⟨_, rfl⟩
          rw [hw7] at HN7 ⊢
          clear hw7 hcc hcf x0 x1 x3

          have HRG := Lib.hid (rangeAt_block (w := w7) (cs := (xRow (cntX z 5 1) a2 b2).toList) (show w7.heap[S]? = some (.cells ((xRow (cntX z 5 1) a2 b2).toList).toArray 27 (0, 0)) from HN7.out.2.1))
          have HRR := Lib.hid HN7.out.2.2.1
          have HEND := Lib.hid (EndR.mk (x := (cntX z 5 1)) (a := a2) (b := b2) HN7.out.1.1 (Nat.le_trans HN7.out.1.2.1 (by have := HN7.out.1; omega)) HN7.out.2.2.1)
          go_wp2_with (first | (refine wpList_load_mid rfl 27 (.tmp 2) rfl S 0 rfl (xRow (cntX z 5 1) a2 b2).toList _ HRG.out Tryz.underlying27 rfl (by kernel_rfl) ?_) | (refine wpList_store_rowTo rfl 27 (.tmp 4) (.tmp 98) rfl rfl R (xRow (cntX z 5 1) a2 b2) rfl rfl 27 (xRow xZ0 0 0) HRR.out (by kernel_rfl) rfl (by kernel_rfl) ?_))
          have hend := HEND.out
          generalize w7.setRow R (xRow (cntX z 5 1) a2 b2) = w8 at hend ⊢
          obtain ⟨⟨u0, u1, u2, u3, u4, u5⟩, u6, u7, u8, u9, u10⟩ := setRow_cellsR hend.2
          exact bodyPost_ret (v := .tuple #[statV (cntX z 5 1) a2 b2, .bool true]) (by simp [results, Tryz.results19, go_sem, statV, u0, u1, u2, u3, u4, u5, u6, u7, u8, u9, u10]) rfl ⟨by rw [← HY.out, ← HZ.out, err_comm x er 5 (by omega) (by omega) 1]; rfl, hend.1⟩
        · have hcj := HN6.out.cell 6 (by omega)
          have hxj := HN6.out.2.2.2.2 6
          have HN7 := Lib.hid (HN6.out.count 6 (by omega) 1 (by omega))
          have HA := Lib.hid (fun W => add25_is (z 6) 1 hxj.1 hxj.2 (by omega) (by omega) W)
          have hcc := hcj.1
          have hcf := hcj.2
          clear hcj hxj
          go_wp2_with fail
          refine (HA.out _).mono ?_
          rintro e w5 ⟨rfl, rfl⟩
          go_upto_region 21 with fail
          obtain ⟨w7, hw7⟩ : ∃ w7, World.setCell wc ⟨S, 6, none⟩ (.int .u64 (mo (z 6) 1)) = w7 := ⟨_, rfl⟩
          rw [hw7] at HN7 ⊢
          clear hw7 hcc hcf x0 x1 x3
          obtain ⟨x0, x1, x3⟩ := HN7.out.2.2.2.1
          have hcj := HN7.out.cell 9 (by omega)
          have hxj := HN7.out.2.2.2.2 9
          have HN8 := Lib.hid (HN7.out.count 9 (by omega) (n : Int) (by omega))
          have HA := Lib.hid (fun W => add25_is (cntX z 6 1 9) (n : Int) hxj.1 hxj.2 (by omega) (by omega) W)
          have hcc := hcj.1
          have hcf := hcj.2
          obtain ⟨v9, hv9⟩ : ∃ v9, cntX z 6 1 9 = v9 := ⟨_, rfl⟩
          rw [hv9] at HN8 HA hcc
          clear hcj hxj hv9
          go_wp2_with fail
          refine (HA.out _).mono ?_
          rintro e w5 ⟨rfl, rfl⟩
          go_upto_region 22 with fail
          obtain ⟨w9, hw9⟩ : ∃ w9, World.setCell w7 ⟨S, 9, none⟩ (.int .u64 (mo v9 (n : Int))) = w9 := ⟨_, rfl⟩
          rw [hw9] at HN8 ⊢
          clear hw9 hcc hcf x0 x1 x3

          have HRG := Lib.hid (rangeAt_block (w := w9) (cs := (xRow (cntX (cntX z 6 1) 9 (n : Int)) a2 b2).toList) (show w9.heap[S]? = some (.cells ((xRow (cntX (cntX z 6 1) 9 (n : Int)) a2 b2).toList).toArray 27 (0, 0)) from HN8.out.2.1))
          have HRR := Lib.hid HN8.out.2.2.1
          have HEND := Lib.hid (EndR.mk (x := (cntX (cntX z 6 1) 9 (n : Int))) (a := a2) (b := b2) HN8.out.1.1 (Nat.le_trans HN8.out.1.2.1 (by have := HN8.out.1; omega)) HN8.out.2.2.1)
          go_wp2_with (first | (refine wpList_load_mid rfl 27 (.tmp 2) rfl S 0 rfl (xRow (cntX (cntX z 6 1) 9 (n : Int)) a2 b2).toList _ HRG.out Tryz.underlying27 rfl (by kernel_rfl) ?_) | (refine wpList_store_rowTo rfl 27 (.tmp 4) (.tmp 98) rfl rfl R (xRow (cntX (cntX z 6 1) 9 (n : Int)) a2 b2) rfl rfl 27 (xRow xZ0 0 0) HRR.out (by kernel_rfl) rfl (by kernel_rfl) ?_))
          have hend := HEND.out
          generalize w9.setRow R (xRow (cntX (cntX z 6 1) 9 (n : Int)) a2 b2) = w8 at hend ⊢
          obtain ⟨⟨u0, u1, u2, u3, u4, u5⟩, u6, u7, u8, u9, u10⟩ := setRow_cellsR hend.2
          exact bodyPost_ret (v := .tuple #[statV (cntX (cntX z 6 1) 9 (n : Int)) a2 b2, .bool true]) (by simp [results, Tryz.results19, go_sem, statV, u0, u1, u2, u3, u4, u5, u6, u7, u8, u9, u10]) rfl ⟨by rw [← HY.out, ← HZ.out, err_comm x er 6 (by omega) (by omega) 1]; rfl, hend.1⟩
end Go.Proofs.YthohoendjipleaaGreatDoor
